/-
  pleachref10.fill, pleachref03.Atom. Conditions: the pattern lies as 'TrV' says, the names as 'Binds'.
-/
import Derived.Test.YtmnjcbjfkaoeaaaGreatDoorS22
import Derived.Test.YtmnjcbjfkaoeaaaGreatDoorS20
import Derived.Deep.AppendLies
namespace Go.Proofs.YtmnjcbjfkaoeaaaGreatDoor
open Go.RowKit


set_option maxHeartbeats 1000000 in
set_option maxRecDepth 100000 in
theorem ratom_any (w : World) (s : ByteArray) : Calls Tryz.prog 97 #[.string s] w fun e w' => e = .returned (.agg #[.int .i8 1, .int .i64 0, .string s, .string ⟨#[]⟩, .slice none 0 0]) ∧ Below w.heap.size w w' := by
  have hn : (w.alloc (.cells #[.int .i8 0, .int .i64 0, .string ⟨#[]⟩, .string ⟨#[]⟩, .slice none 0 0] 37)).heap[w.heap.size]? = some (.cells (cells5 zeroT (.slice none 0 0)) 37 (0, 0)) := heap_new w _
  have hb := alloc_below w (.cells #[.int .i8 0, .int .i64 0, .string ⟨#[]⟩, .string ⟨#[]⟩, .slice none 0 0] 37)
  go_enter Tryz.func97, Tryz.ntmps97
  go_upto_region 1 with fail
  generalize w.alloc (.cells #[.int .i8 0, .int .i64 0, .string ⟨#[]⟩, .string ⟨#[]⟩, .slice none 0 0] 37) = w1 at hn hb ⊢
  have hr := setRow_heap' (cells := cells5 (.mk 1 0 s ⟨#[]⟩ []) (.slice none 0 0)) hn
  have hB := below_setRow (cells := cells5 (.mk 1 0 s ⟨#[]⟩ []) (.slice none 0 0)) hb (Nat.le_refl _)
  go_wp2_with (refine wpList_store_row rfl 37 _ _ rfl w.heap.size (cells5 (.mk 1 0 s ⟨#[]⟩ []) (.slice none 0 0)) (by kernel_rfl) (by kernel_rfl) 37 (cells5 zeroT (.slice none 0 0)) hn (size28 _ _) (by kernel_rfl) (by kernel_rfl) ?_)
  refine bodyPost_ret (v := .agg (cells5 (.mk 1 0 s ⟨#[]⟩ []) (.slice none 0 0))) (results_cell_row Tryz.results97 _ _ w.heap.size 37 (cells5 (.mk 1 0 s ⟨#[]⟩ []) (.slice none 0 0)) (0, 0) _ rfl hr Tryz.underlying37 rfl (size28 _ _)) rfl ⟨rfl, hB⟩

def RFilPost (F : Nat → Prop) (y : Tr) (w : World) (e : Ending) (w' : World) : Prop :=
  ∃ (yv : Value), e = .returned (.agg #[.int .i8 y.k, .int .i64 y.n, .string y.s, .string y.t, yv]) ∧ TrV F w' y yv ∧ Below w.heap.size w w'
def RFilSays (p : Tr) : Prop := ∀ (F : Nat → Prop) (l : List Bd) (w : World) (pv v : Value), (∀ k, w.heap.size ≤ k → F k) → TrV F w p pv → Binds F w v l → p.nn ≤ 1048576 →
    Calls Tryz.prog 75 #[.agg #[.int .i8 p.k, .int .i64 p.n, .string p.s, .string p.t, pv], v] w (RFilPost F (p.rfil l) w)
def kindR (k : Int) : Int := if k = 9 then 7 else 5
/-- What the round knows; b: the term's own block. -/
def RfRel (F : Nat → Prop) (p : Tr) (l : List Bd) (S b : Nat) (w7 : World) (i : Value) (wr : World) : Prop :=
  ∃ k : Nat, k ≤ p.l.length ∧ i = .int .i64 k ∧ ∃ (sv : Value) (L : List (Tr × Value)), wr.heap[b]? = some (.cells #[.int .i8 (kindR p.k), .int .i64 0, .string ⟨#[]⟩, .string ⟨#[]⟩, sv] 37 (0, 0)) ∧
    TRow F S b 37 wr sv L ∧ Below b w7 wr ∧ L.map (·.1) = (p.l.take k).map (·.rfil l) ∧ L.length = k
theorem rf_wf (k : Int) (l : List Tr) : NodeWf (.mk (kindR k) 0 ⟨#[]⟩ ⟨#[]⟩ l) := wf_small _ _ _ _ _ (by unfold kindR; split <;> rfl) (by decide) (by decide) (by decide)
theorem five_set0 {w : World} {b : Nat} {v0 v1 v2 v3 v4 u : Value} {T : TypeId} (h : w.heap[b]? = some (.cells #[v0, v1, v2, v3, v4] T (0, 0))) : (w.setCell ⟨b, 0, none⟩ u).heap[b]? = some (.cells #[u, v1, v2, v3, v4] T (0, 0)) := by
  simp only [World.setCell, Array.getElem?_modify, if_true, h]; rfl

set_option maxHeartbeats 8000000 in
set_option maxRecDepth 100000 in
theorem rfill_any (p : Tr) : RFilSays p := by
  induction p using Tr.ind with
  | h p ih =>
    intro F l w pv v hF hp hl hnn
    have hlen : p.l.length ≤ 1048576 := by
      have h1 : ∀ L : List Tr, L.length ≤ Tr.nn.nnl L := by
        intro L
        induction L with
        | nil => exact Nat.le_refl _
        | cons a r ihr => rw [Tr.nn.nnl, List.length_cons]; have := nn_pos a; omega
      have := h1 p.l
      rw [nn_eq] at hnn
      omega
    obtain ⟨p1, c1, rfl⟩ := hp.kids.slice
    obtain ⟨pl, cl, rfl⟩ := hl.slice
    have hp0 : TrV (fun g => F g ∧ g < w.heap.size) w p (.slice p1 p.l.length c1) := hp.mono fun g hg h => ⟨hg, h⟩
    have hl0 : Binds (fun g => F g ∧ g < w.heap.size) w (.slice pl l.length cl) l := hl.mono fun g hg h => ⟨hg, h⟩
    obtain ⟨i0, hi, hi0, hi1, hi2⟩ := info_parts infoTerm
    have hR := rfil_eq p l
    have IH := Lib.hid ih
    have HF := Lib.hid hF
    have HP := Lib.hid hp
    have HP0 := Lib.hid hp0
    have HL0 := Lib.hid hl0
    have HNN := Lib.hid hnn
    clear ih hF hp hl hp0 hl0 hnn
    obtain ⟨n1, n2, hb1, hz1⟩ := two_new w (.cells #[.int .i8 p.k, .int .i64 p.n, .string p.s, .string p.t, .slice p1 p.l.length c1] 31) (.cells #[.int .i8 0, .int .i64 0, .string ⟨#[]⟩, .string ⟨#[]⟩, .slice none 0 0] 37)
    go_enter Tryz.func75, Tryz.ntmps75
    go_upto_region 1 with fail
    generalize (w.alloc (.cells #[.int .i8 p.k, .int .i64 p.n, .string p.s, .string p.t, .slice p1 p.l.length c1] 31)).alloc (.cells #[.int .i8 0, .int .i64 0, .string ⟨#[]⟩, .string ⟨#[]⟩, .slice none 0 0] 37) = w1 at n1 n2 hb1 hz1 ⊢
    have HZ := Lib.hid hz1
    have hz2 : w1.heap[w.heap.size + 1]? = some (.cells (cells5 zeroT (.slice none 0 0)) 37 (0, 0)) := n2
    obtain ⟨a0, a1, a2, a3, a4⟩ := node_heap n1
    simp only [Nat.zero_add] at a1 a2 a3 a4
    clear n1 n2 hz1
    by_cases k5 : p.k = 5
    · rw [if_pos k5] at hR
      have HR := Lib.hid hR
      have cF := rfind_any (s := p.s) (HL0.out.under hb1)
      rw [k5] at a0
      clear hR k5
      go_upto_region 4 with (first
        | (go_at_call 74; refine cF.mono ?_; rintro e w5 ⟨y, yv, rfl, hy5, hyx, hb5⟩; obtain ⟨p5, c5, rfl⟩ := hy5.kids.slice; have HYX := Lib.hid (hyx.trans HR.out.symm); clear hyx; have hn5 : (w5.alloc (.cells #[.int .i8 0, .int .i64 0, .string ⟨#[]⟩, .string ⟨#[]⟩, .slice none 0 0] 37)).heap[w5.heap.size]? = some (.cells (cells5 zeroT (.slice none 0 0)) 37 (0, 0)) := heap_new w5 _)
        | (refine wpList_store_row rfl 37 _ _ rfl w5.heap.size (cells5 y (.slice p5 y.l.length c5)) (by kernel_rfl) (by kernel_rfl) 37 (cells5 zeroT (.slice none 0 0)) hn5 (size28 _ _) (by kernel_rfl) (by kernel_rfl) ?_))
      have hr6 := setRow_heap' (cells := cells5 y (.slice p5 y.l.length c5)) hn5
      have hB56 := below_setRow (g := w5.heap.size) (cells := cells5 y (.slice p5 y.l.length c5)) (alloc_below w5 (.cells #[.int .i8 0, .int .i64 0, .string ⟨#[]⟩, .string ⟨#[]⟩, .slice none 0 0] 37)) (Nat.le_refl _)
      generalize (w5.alloc (.cells #[.int .i8 0, .int .i64 0, .string ⟨#[]⟩, .string ⟨#[]⟩, .slice none 0 0] 37)).setRow w5.heap.size (cells5 y (.slice p5 y.l.length c5)) = w6 at hr6 hB56 ⊢
      have hB16 := hb5.trans (hB56.mono hb5.size)
      have hz6 := (hB16.block _ (show w.heap.size + 1 < w1.heap.size by have := HZ.out; omega)).trans hz2
      have hr7 := setRow_heap' (cells := cells5 y (.slice p5 y.l.length c5)) hz6
      have hB7 := below_setRow (g := w.heap.size + 1) (cells := cells5 y (.slice p5 y.l.length c5)) (hb1.trans (hB16.mono hb1.size)) (by omega)
      have hy6 := hy5.below hB56
      have HY : Hid (TrV F (w6.setRow (w.heap.size + 1) (cells5 y (.slice p5 y.l.length c5))) y (.slice p5 y.l.length c5)) := by
        unfold Hid
        exact hy6.move (fun g hg _ => setRow_ne (by omega)) (fun g hg _ => hg.1)
      clear hy5 hy6 hn5
      obtain ⟨d0, d1, d2, d3, d4⟩ := node_heap (x := y) hr6
      simp only [Nat.zero_add] at d1 d2 d3 d4
      go_wp2_with (refine wpList_store_row rfl 37 _ _ rfl (w.heap.size + 1) (cells5 y (.slice p5 y.l.length c5)) (by kernel_rfl) (by kernel_rfl) 37 (cells5 zeroT (.slice none 0 0)) hz6 (size28 _ _) (by kernel_rfl) (by kernel_rfl) ?_)
      refine bodyPost_ret (v := .agg (cells5 y (.slice p5 y.l.length c5))) (results_cell_row Tryz.results75 _ _ (w.heap.size + 1) 37 (cells5 y (.slice p5 y.l.length c5)) (0, 0) _ rfl hr7 Tryz.underlying37 rfl (size28 _ _)) rfl ?_
      rw [← HYX.out]
      exact ⟨_, rfl, HY.out, hB7⟩
    have d5 : (p.k == 5) = false := by simpa using k5
    rw [if_neg k5] at hR
    have hfin : ∀ (y : Tr), NodeWf y → y.l = [] → p.rfil l = y → ∀ W, Below w1.heap.size w1 W → (W.setRow (w.heap.size + 1) (cells5 y (.slice none 0 0))).heap[w.heap.size + 1]? = some (.cells (cells5 y (.slice none 0 0)) 37 (0, 0)) ∧ RFilPost F (p.rfil l) w (.returned (.agg (cells5 y (.slice none 0 0)))) (W.setRow (w.heap.size + 1) (cells5 y (.slice none 0 0))) := fun y hy hyl he W hb =>
      ⟨setRow_heap' ((hb.block _ (show w.heap.size + 1 < w1.heap.size by have := HZ.out; omega)).trans hz2), by rw [he]; exact ⟨_, rfl, ⟨hy, by rw [hyl]; exact Kids.nil _ _⟩, below_setRow (g := w.heap.size + 1) (hb1.trans (hb.mono hb1.size)) (by omega)⟩⟩
    have HFIN := Lib.hid hfin
    clear hfin k5
    by_cases k6 : p.k = 6
    · rw [if_pos k6] at hR
      have HR := Lib.hid hR
      rw [k6] at a0
      clear hR k6 d5
      go_wp2_with (first
        | (go_at_call 98; refine (int_any _ p.n).mono ?_; rintro e w5 ⟨rfl, hb5⟩; have hz6 := (hb5.block _ (show w.heap.size + 1 < w1.heap.size by have := HZ.out; omega)).trans hz2)
        | (refine wpList_store_row rfl 37 _ _ rfl (w.heap.size + 1) (cells5 (.mk 0 p.n ⟨#[]⟩ ⟨#[]⟩ []) (.slice none 0 0)) (by kernel_rfl) (by kernel_rfl) 37 (cells5 zeroT (.slice none 0 0)) hz6 (size28 _ _) (by kernel_rfl) (by kernel_rfl) ?_))
      obtain ⟨hr, hpost⟩ := HFIN.out (.mk 0 p.n ⟨#[]⟩ ⟨#[]⟩ []) (wf_small _ _ _ _ _ (by decide) HP.out.wf.n (by decide) (by decide)) rfl HR.out w5 hb5
      exact bodyPost_ret (results_cell_row Tryz.results75 _ _ (w.heap.size + 1) 37 _ (0, 0) _ rfl hr Tryz.underlying37 rfl (size28 _ _)) rfl hpost
    have d6 : (p.k == 6) = false := by simpa using k6
    rw [if_neg k6] at hR
    clear k6
    by_cases k7 : p.k = 7
    · rw [if_pos k7] at hR
      have HR := Lib.hid hR
      rw [k7] at a0
      clear hR k7 d5 d6
      go_wp2_with (first
        | (go_at_call 97; refine (ratom_any _ p.s).mono ?_; rintro e w5 ⟨rfl, hb5⟩; have hz6 := (hb5.block _ (show w.heap.size + 1 < w1.heap.size by have := HZ.out; omega)).trans hz2)
        | (refine wpList_store_row rfl 37 _ _ rfl (w.heap.size + 1) (cells5 (.mk 1 0 p.s ⟨#[]⟩ []) (.slice none 0 0)) (by kernel_rfl) (by kernel_rfl) 37 (cells5 zeroT (.slice none 0 0)) hz6 (size28 _ _) (by kernel_rfl) (by kernel_rfl) ?_))
      obtain ⟨hr, hpost⟩ := HFIN.out (.mk 1 0 p.s ⟨#[]⟩ []) ⟨rfl, rfl, HP.out.wf.s, Nat.zero_le _⟩ rfl HR.out w5 hb5
      exact bodyPost_ret (results_cell_row Tryz.results75 _ _ (w.heap.size + 1) 37 _ (0, 0) _ rfl hr Tryz.underlying37 rfl (size28 _ _)) rfl hpost
    have d7 : (p.k == 7) = false := by simpa using k7
    rw [if_neg k7] at hR
    clear k7
    by_cases k8 : p.k = 8
    · rw [if_pos k8] at hR
      have HR := Lib.hid hR
      rw [k8] at a0
      clear hR k8 d5 d6 d7
      go_wp2_with (refine wpList_store_row rfl 37 _ _ rfl (w.heap.size + 1) (cells5 (.mk 6 0 ⟨#[]⟩ ⟨#[]⟩ []) (.slice none 0 0)) (by kernel_rfl) (by kernel_rfl) 37 (cells5 zeroT (.slice none 0 0)) hz2 (size28 _ _) (by kernel_rfl) (by kernel_rfl) ?_)
      obtain ⟨hr, hpost⟩ := HFIN.out (.mk 6 0 ⟨#[]⟩ ⟨#[]⟩ []) (wf_small _ _ _ _ _ (by decide) (by decide) (by decide) (by decide)) rfl HR.out w1 (Below.refl _ _)
      exact bodyPost_ret (results_cell_row Tryz.results75 _ _ (w.heap.size + 1) 37 _ (0, 0) _ rfl hr Tryz.underlying37 rfl (size28 _ _)) rfl hpost
    have d8 : (p.k == 8) = false := by simpa using k8
    rw [if_neg k8] at hR
    have HR := Lib.hid hR
    clear k8 hR HFIN
    have hg2 : (w1.alloc (.cells #[.int .i8 5, .int .i64 0, .string ⟨#[]⟩, .string ⟨#[]⟩, .slice none 0 0] 37)).heap[w1.heap.size]? = some (.cells #[.int .i8 5, .int .i64 0, .string ⟨#[]⟩, .string ⟨#[]⟩, .slice none 0 0] 37 (0, 0)) := heap_new w1 _
    go_upto_region 12 with fail
    have hb2 := alloc_below w1 (.cells #[.int .i8 5, .int .i64 0, .string ⟨#[]⟩, .string ⟨#[]⟩, .slice none 0 0] 37)
    have hz2' : (w1.alloc (.cells #[.int .i8 5, .int .i64 0, .string ⟨#[]⟩, .string ⟨#[]⟩, .slice none 0 0] 37)).heap.size = w1.heap.size + 1 := by simp
    generalize (w1.alloc (.cells #[.int .i8 5, .int .i64 0, .string ⟨#[]⟩, .string ⟨#[]⟩, .slice none 0 0] 37)) = w2 at hg2 hb2 hz2' ⊢
    have HZ2 := Lib.hid hz2'
    clear hz2'
    have h12 : ∀ o u, w1.cell? ⟨w.heap.size, o, none⟩ = some u → w2.cell? ⟨w.heap.size, o, none⟩ = some u := fun o u h => (hb2.cell (p := ⟨w.heap.size, o, none⟩) (cell_block h)).trans h
    have b0 := h12 _ _ a0
    have b4 := h12 _ _ a4
    have b0c : w2.cell? ⟨w1.heap.size, 0, none⟩ = some (.int .i8 5) := (arr_cell hg2).trans rfl
    have b0f : w2.frozen? ⟨w1.heap.size, 0, none⟩ = false := arr_free hg2
    have hz3 := (hb2.block _ (show w.heap.size + 1 < w1.heap.size by have := HZ.out; omega)).trans hz2
    clear a0 a1 a2 a3 a4 d5 d6 d7 d8 hz2 h12
    have HLT : Hid (w.heap.size + 1 < w1.heap.size) := by unfold Hid; have := HZ.out; omega
    by_cases k9 : p.k = 9
    case' pos =>
      have d9 : (p.k == 9) = true := by simpa using k9
      have HK : Hid (kindR p.k = 7) := by unfold Hid kindR; rw [if_pos k9]
      have HR2 : Hid (p.rfil l = .mk (kindR p.k) 0 ⟨#[]⟩ ⟨#[]⟩ (p.l.map (·.rfil l))) := by unfold Hid; rw [HR.out, rfill_map]; rfl
      clear k9
      go_upto_region 14 with fail
      have hg7 : (w2.setCell ⟨w1.heap.size, 0, none⟩ (.int .i8 7)).heap[w1.heap.size]? = some (.cells #[.int .i8 (kindR p.k), .int .i64 0, .string ⟨#[]⟩, .string ⟨#[]⟩, .slice none 0 0] 37 (0, 0)) := by rw [HK.out]; exact five_set0 hg2
      have hb7 : Below w1.heap.size w1 (w2.setCell ⟨w1.heap.size, 0, none⟩ (.int .i8 7)) := hb2.setCell (p := ⟨w1.heap.size, 0, none⟩) (Nat.le_refl _) _
      have a47 : (w2.setCell ⟨w1.heap.size, 0, none⟩ (.int .i8 7)).cell? ⟨w.heap.size, 4, none⟩ = some (.slice p1 p.l.length c1) := (World.cell?_of_block (a := ⟨w.heap.size, 4, none⟩) (Below.heap_setCell _ _ _ _ (by have := HLT.out; show w.heap.size ≠ w1.heap.size; omega))).trans b4
      have hz7 : (w2.setCell ⟨w1.heap.size, 0, none⟩ (.int .i8 7)).heap[w.heap.size + 1]? = some (.cells (cells5 zeroT (.slice none 0 0)) 37 (0, 0)) := (Below.heap_setCell _ _ _ _ (by have := HLT.out; show w.heap.size + 1 ≠ w1.heap.size; omega)).trans hz3
      generalize w2.setCell ⟨w1.heap.size, 0, none⟩ (.int .i8 7) = w7 at hg7 hb7 a47 hz7 ⊢
    case' neg =>
      have d9 : (p.k == 9) = false := by simpa using k9
      have HR2 : Hid (p.rfil l = .mk (kindR p.k) 0 ⟨#[]⟩ ⟨#[]⟩ (p.l.map (·.rfil l))) := by unfold Hid; rw [HR.out, rfill_map]; rfl
      have hg7 : w2.heap[w1.heap.size]? = some (.cells #[.int .i8 (kindR p.k), .int .i64 0, .string ⟨#[]⟩, .string ⟨#[]⟩, .slice none 0 0] 37 (0, 0)) := by rw [show kindR p.k = 5 from by unfold kindR; rw [if_neg k9]]; exact hg2
      clear k9
      go_upto_region 14 with fail
      have hb7 := hb2
      have a47 := b4
      have hz7 := hz3
      generalize w2 = w7 at hg7 hb7 a47 hz7 ⊢
    all_goals
      clear b0 b4 b0c b0f hz3 hg2 hb2 d9 HZ2
      have HG7 := Lib.hid hg7
      have HA4 := Lib.hid a47
      have HZ7 := Lib.hid hz7
      clear hg7 a47 hz7
      go_wp2_with fail
      go_loopw [8] (fun i wr => RfRel F p l w.heap.size w1.heap.size w7 i wr) (fun i _ => p.l.length - (intOf i).toNat)
      case atStart => exact ⟨0, Nat.zero_le _, rfl, _, [], HG7.out, TRow.nil .., Below.refl _ _, rfl, rfl⟩
      case round =>
        obtain ⟨k, hk, rfl, sv, L, hgr, hrow, hbr, hst, hLk⟩ := hrel
        obtain ⟨q, cp, rfl⟩ := hrow.slice
        have hbr2 := hb7.trans hbr
        have hB := hb1.trans (hbr2.mono hb1.size)
        have a4 := (hbr2.cell (p := ⟨w.heap.size, 4, none⟩) (show w.heap.size < w1.heap.size by have := HLT.out; omega)).trans (show w1.cell? ⟨w.heap.size, 4, none⟩ = some (.slice p1 p.l.length c1) from (hb7.cell (p := ⟨w.heap.size, 4, none⟩) (show w.heap.size < w1.heap.size by have := HLT.out; omega)).symm.trans HA4.out)
        have hzr : wr.heap[w.heap.size + 1]? = some (.cells (cells5 zeroT (.slice none 0 0)) 37 (0, 0)) := (hbr2.block _ HLT.out).trans ((hb7.block _ HLT.out).symm.trans HZ7.out)
        have HST := Lib.hid hst
        have HROW := Lib.hid hrow
        have HLK := Lib.hid hLk
        have HGR := Lib.hid hgr
        have HZR := Lib.hid hzr
        clear hst hrow hLk hzr
        by_cases hlt : k < p.l.length
        · obtain ⟨g, o, qv, rfl, _, hnode, hkid⟩ := (HP0.out.kids.under hB).at hlt
          obtain ⟨p3, c3, rfl⟩ := hkid.kids.slice
          obtain ⟨e0, e1, e2, e3, e4⟩ := hnode
          have hd := below_drewN (Below.refl wr.heap.size wr) 1
          have hsz := hB.size
          have cQ := IH.out p.l[k] (List.getElem_mem hlt) (fun g => (F g ∧ g < w.heap.size) ∨ wr.heap.size ≤ g) l wr.drew _ _ (fun g hg => .inr hg) ((hkid.below hd).mono fun g hg _ => .inl hg) ((HL0.out.under (hB.trans (hd.mono hB.size))).mono fun g hg _ => .inl hg) (by have := nn_kid (List.getElem_mem hlt); have := HNN.out; omega)
          have g4 : wr.cell? ⟨w1.heap.size, 4, none⟩ = some (.slice q L.length cp) := (arr_cell hgr).trans rfl
          have HHY : Hid (p.l[k].rfil l = p.l[k].rfil l) := rfl
          generalize hgy : p.l[k].rfil l = y at cQ
          have HGY := Lib.hid hgy
          have hown := HROW.out.blk
          have HOWN := Lib.hid hown
          have HGL := Lib.hid (Array.getElem?_eq_some_iff.1 hgr).1
          have hlenL : L.length ≤ 1048576 := by have := HLK.out; omega
          clear hgy hgr hkid hown HHY
          go_upto_region 17 with fail
          go_region_law (first
            | (refine step_append_own2 rfl (.tmp 47) (.tmp 55) 23 rfl (w1.heap.size + 1) 37 i0 _ 5 72 Tryz.underlying23 hi hi0 hi1 hi2 rfl (by decide) _ L.length (L.flatMap tcells) rfl hown7 ⟨w5.heap.size, 0, none⟩ 1 1 (tcells (y, .slice p5 y.l.length c5)) rfl rfl (cells_at_new w5 (tcells (y, .slice p5 y.l.length c5)) 37) (tcells_plain (q := (y, .slice p5 y.l.length c5)) HY5.out) (by unfold maxLen; omega) (by omega) hbs ?_; intro v8 w8 hown8 hgrow8 hnil8; obtain ⟨q8, c8, rfl⟩ := row_shape hown8; have hbk8 := (grown_block hgrow8 hlt8 hne8).trans hb8a; have c84 : w8.cell? ⟨w1.heap.size, 4, none⟩ = some (.slice q L.length cp) := (arr_cell hbk8).trans rfl; have f84 : w8.frozen? ⟨w1.heap.size, 4, none⟩ = false := arr_free hbk8)
            | (go_simp; go_at_call 75; refine cQ.mono ?_; rintro e w5 ⟨yv, rfl, hy5, hb5⟩; obtain ⟨p5, c5, rfl⟩ := hy5.kids.slice
               have hrw : Below wr.heap.size wr w5 := hd.trans hb5
               have hgr5 := (hrw.block _ HGL.out).trans HGR.out
               have g45 : w5.cell? ⟨w1.heap.size, 4, none⟩ = some (.slice q L.length cp) := (arr_cell hgr5).trans rfl
               have hb5a := alloc_below w5 (.cells (tcells (y, .slice p5 y.l.length c5)).toArray 37)
               have hrow5 := HROW.out.below hrw
               have hrow7 := hrow5.below hb5a
               have hown7 := hrow7.own
               have hb8a := (hb5a.block _ (Array.getElem?_eq_some_iff.1 hgr5).1).trans hgr5
               have g46 : (w5.alloc (.cells #[.int .i8 y.k, .int .i64 y.n, .string y.s, .string y.t, .slice p5 y.l.length c5] 37)).cell? ⟨w1.heap.size, 4, none⟩ = some (.slice q L.length cp) := (arr_cell hb8a).trans rfl
               have hlt8 := (Array.getElem?_eq_some_iff.1 hb8a).1
               have hne8 : (Value.slice q L.length cp).ownBlock ≠ some w1.heap.size := fun e => by have := HOWN.out _ e; omega
               have hbs : w1.heap.size + 1 ≤ (w5.alloc (.cells (tcells (y, .slice p5 y.l.length c5)).toArray 37)).heap.size := hlt8
               have HROW7 := Lib.hid hrow7
               have HY5 := Lib.hid hy5
               clear hrow5 hrow7 hy5 hgr5))
          all_goals
            have hyy : TrV (fun g => ((F g ∧ g < w.heap.size) ∨ w1.heap.size < g) ∧ (Value.slice q L.length cp).ownBlock ≠ some g) (w5.alloc (.cells (tcells (y, .slice p5 y.l.length c5)).toArray 37)) y (.slice p5 y.l.length c5) :=
              (HY5.out.below hb5a).mono fun g hg _ => ⟨hg.elim .inl fun h => .inr (by have := HGL.out; omega), fun e => by have := HOWN.out _ e; have := HLT.out; rcases hg with h | h <;> omega⟩
            have hrow8 := HROW7.out.push hyy hown8 hgrow8 hnil8
            have hrow9 : TRow F w.heap.size w1.heap.size 37 (w8.setCell ⟨w1.heap.size, 4, none⟩ (.slice q8 (L.length + 1) c8)) (.slice q8 (L.length + 1) c8) (L ++ [(y, .slice p5 y.l.length c5)]) :=
              hrow8.keep fun g hg _ => Below.heap_setCell _ _ _ _ (by have := HLT.out; show g ≠ w1.heap.size; omega)
            have hB8 : Below w1.heap.size w7 w8 := ((hbr.trans (hrw.mono hbr2.size)).trans (hb5a.mono (by have := HGL.out; have := hrw.size; omega))).grown hgrow8 (by omega) (fun j hj => by have := HOWN.out _ hj; omega)
            have HR9 := Lib.hid hrow9
            have HB8 := Lib.hid (hB8.setCell (p := ⟨w1.heap.size, 4, none⟩) (Nat.le_refl _) (.slice q8 (L.length + 1) c8))
            have HF9 := Lib.hid (five_set (u := .slice q8 (L.length + 1) c8) hbk8)
            have HST9 : Hid ((L ++ [(y, Value.slice p5 y.l.length c5)]).map (·.1) = (p.l.take (k + 1)).map (·.rfil l)) := by unfold Hid; rw [List.map_append, HST.out, List.take_succ_eq_append_getElem hlt, List.map_append]; simp [HGY.out]
            clear hyy hrow8 hrow9 hB8 hown8 hgrow8 hnil8 hbk8 c84 f84
            go_wp2
            go_roundw
            case rel => exact ⟨k + 1, hlt, by go_num, _, _, HF9.out, HR9.out, HB8.out, HST9.out, by rw [List.length_append, HLK.out]; rfl⟩
            case measure => simp [intOf]; omega
        · have HE : Hid (p.rfil l = .mk (kindR p.k) 0 ⟨#[]⟩ ⟨#[]⟩ (L.map (·.1))) := by unfold Hid; rw [HR2.out, HST.out, List.take_of_length_le (by omega)]
          have hL0 : L.length ≤ BL := by have := HLK.out; unfold BL; omega
          have hz6 := HZR.out
          have hr9 := setRow_heap' (cells := cells5 (.mk (kindR p.k) 0 ⟨#[]⟩ ⟨#[]⟩ (L.map (·.1))) (.slice q L.length cp)) hz6
          have hB9 := below_setRow (g := w.heap.size + 1) (cells := cells5 (.mk (kindR p.k) 0 ⟨#[]⟩ ⟨#[]⟩ (L.map (·.1))) (.slice q L.length cp)) hB (by omega)
          have hrow9 := HROW.out.keep (w' := wr.setRow (w.heap.size + 1) (cells5 (.mk (kindR p.k) 0 ⟨#[]⟩ ⟨#[]⟩ (L.map (·.1))) (.slice q L.length cp))) fun g hg _ => setRow_ne (by have := HLT.out; omega)
          have hty : TrV F (wr.setRow (w.heap.size + 1) (cells5 (.mk (kindR p.k) 0 ⟨#[]⟩ ⟨#[]⟩ (L.map (·.1))) (.slice q L.length cp))) (.mk (kindR p.k) 0 ⟨#[]⟩ ⟨#[]⟩ (L.map (·.1))) (.slice q L.length cp) := ⟨rf_wf _ _, hrow9.kids HF.out (by have := HLT.out; omega) hL0⟩
          have HTY := Lib.hid hty
          have HB9 := Lib.hid hB9
          clear hB9 hrow9 hty
          obtain ⟨g0, g1, g2, g3, g4⟩ := node_heap (x := .mk (kindR p.k) 0 ⟨#[]⟩ ⟨#[]⟩ []) HGR.out
          simp only [Nat.zero_add] at g1 g2 g3 g4
          go_wp2_with (refine wpList_store_row rfl 37 _ _ rfl (w.heap.size + 1) (cells5 (.mk (kindR p.k) 0 ⟨#[]⟩ ⟨#[]⟩ (L.map (·.1))) (.slice q L.length cp)) (by kernel_rfl) (by kernel_rfl) 37 (cells5 zeroT (.slice none 0 0)) hz6 (size28 _ _) (by kernel_rfl) (by kernel_rfl) ?_)
          refine bodyPost_ret (v := .agg (cells5 (.mk (kindR p.k) 0 ⟨#[]⟩ ⟨#[]⟩ (L.map (·.1))) (.slice q L.length cp))) (results_cell_row Tryz.results75 _ _ (w.heap.size + 1) 37 _ (0, 0) _ rfl hr9 Tryz.underlying37 rfl (size28 _ _)) rfl ?_
          rw [HE.out]
          exact ⟨_, rfl, HTY.out, HB9.out⟩
end Go.Proofs.YtmnjcbjfkaoeaaaGreatDoor
