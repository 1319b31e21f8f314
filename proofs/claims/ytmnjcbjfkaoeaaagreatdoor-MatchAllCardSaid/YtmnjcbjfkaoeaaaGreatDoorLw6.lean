/-
  pleachlaw10.MatchAll holds; pleachref03.GreatAll. Conditions: the trees lie as 'Kids' says, the names as 'Binds'; the table of letters is as it was laid.
-/
import Derived.Test.YtmnjcbjfkaoeaaaGreatDoorS20
import Derived.Test.YtmnjcbjfkaoeaaaGreatDoorFl4
namespace Go.Proofs.YtmnjcbjfkaoeaaaGreatDoor
open Go.RowKit

/-- How many nodes a row's terms have, with how many they are, as far as it is asked. -/
def gsum : List Tr → Int → Int
  | [], n => n
  | x :: r, n => if n < 4000 then gsum r (n + x.sz 4000) else n
theorem gsum_drop {l : List Tr} {k : Nat} {n : Int} (hk : k < l.length) (hn : n < 4000) : gsum (l.drop k) n = gsum (l.drop (k + 1)) (n + l[k].sz 4000) := by rw [List.drop_eq_getElem_cons hk, gsum, if_pos hn]
theorem gsum_stop {l : List Tr} {n : Int} (hn : ¬ n < 4000) : gsum l n = n := by
  cases l with
  | nil => rfl
  | cons x r => rw [gsum, if_neg hn]
def greatU (l : List Tr) : Bool := decide (4000 ≤ gsum l l.length)

set_option maxHeartbeats 2000000 in
set_option maxRecDepth 100000 in
theorem greatU_any {F : Nat → Prop} {w : World} {v : Value} {l : List Tr} (hl : Kids F w v l) :
    Calls Tryz.prog 12 #[v] w fun e w' => e = .returned (.bool (greatU l)) ∧ Below w.heap.size w w' := by
  have hlen : l.length ≤ 2199023255552 := hl.len
  obtain ⟨p, c, rfl⟩ := hl.slice
  have HL := Lib.hid hl
  have HG := Lib.hid (show greatU l = decide (4000 ≤ gsum l l.length) from rfl)
  clear hl
  go_enter Tryz.func12, Tryz.ntmps12
  go_wp2_with fail
  go_loopw [3, 4] (fun a i wr => ∃ k : Nat, k ≤ l.length ∧ i = .int .i64 k ∧ (∃ n : Int, a = .int .i64 n ∧ 0 ≤ n ∧ n ≤ 2199023263552 ∧ gsum (l.drop k) n = gsum l l.length) ∧ Below w.heap.size w wr) (fun _ i _ => l.length - (intOf i).toNat)
  case atStart => exact ⟨0, Nat.zero_le _, rfl, ⟨_, rfl, by omega, by omega, rfl⟩, Below.refl _ _⟩
  case round =>
    obtain ⟨k, hk, rfl, ⟨n, rfl, hn0, hn1, hgs⟩, hbr⟩ := hrel
    have HGS := Lib.hid hgs
    clear hgs
    by_cases hn : n < 4000
    · by_cases hlt : k < l.length
      · obtain ⟨g, o, sv, rfl, _, ⟨a0, a1, a2, a3, a4⟩, hkid⟩ := (HL.out.under hbr).at hlt
        obtain ⟨p3, c3, rfl⟩ := hkid.kids.slice
        have cS := size_any l[k] wr _ 4000 hkid (by omega) (by omega)
        have hbd := sz_bound l[k] 4000 (by omega)
        have hnx := HGS.out
        rw [gsum_drop hlt hn] at hnx
        have HNX := Lib.hid hnx
        clear hkid hnx
        generalize l[k].sz 4000 = z at cS hbd HNX
        go_wp2_with (go_at_call 55; refine cS.mono ?_; rintro e w5 ⟨rfl, hb5⟩)
        go_roundw
        case rel => exact ⟨k + 1, hlt, by go_num, ⟨_, rfl, by omega, by omega, HNX.out⟩, hbr.trans (hb5.mono hbr.size)⟩
        case measure => simp [intOf]; omega
      · have hnx := HGS.out
        rw [List.drop_eq_nil_of_le (by omega), gsum] at hnx
        have HE : Hid (greatU l = decide (4000 ≤ n)) := by unfold Hid; rw [HG.out, ← hnx]
        clear hnx
        go_wp2
        go_ret
        exact ⟨by rw [HE.out]; rfl, hbr⟩
    · have hnx := HGS.out
      rw [gsum_stop hn] at hnx
      have HE : Hid (greatU l = true) := by unfold Hid; rw [HG.out, ← hnx]; exact decide_eq_true (by omega)
      clear hnx
      by_cases hlt : k < l.length
      · go_wp2
        go_ret
        exact ⟨by rw [HE.out]; rfl, hbr⟩
      · go_wp2
        go_ret
        exact ⟨by rw [HE.out]; rfl, hbr⟩

theorem sameB_me : ∀ l : List Bd, sameB l l = true
  | [] => rfl
  | b :: r => by rw [sameB, sameB_me r, same_self]; simp

set_option maxHeartbeats 16000000 in
set_option maxRecDepth 100000 in
theorem matchAll_any {w : World} {p t : List Tr} {l : List Bd} {pv tv v : Value} (hL : Letters w) (hp : Kids (fun _ => True) w pv p) (ht : Kids (fun _ => True) w tv t) (hl : Binds (fun _ => True) w v l) :
    Calls Tryz.prog 3 #[pv, tv, v] w fun e w' => e = .returned (.bool true) ∧ Below w.heap.size w w' := by
  have hlp : p.length ≤ 2199023255552 := hp.len
  have hlt' : t.length ≤ 2199023255552 := ht.len
  obtain ⟨p1, c1, rfl⟩ := hp.slice
  obtain ⟨p2, c2, rfl⟩ := ht.slice
  obtain ⟨pl, cl, rfl⟩ := hl.slice
  have HL := Lib.hid hL
  have HP := Lib.hid hp
  have HT := Lib.hid ht
  have HB := Lib.hid hl
  have cW := fun (W : World) (hb : Below w.heap.size w W) => wakes_any (HL.out.under hb)
  have cG := greatU_any HT.out
  have cB := fun (W : World) (hb : Below w.heap.size w W) => greatL_any (HB.out.under hb)
  clear hL hp ht hl
  by_cases h1 : (20 : Int) < p.length
  · go_enter Tryz.func3, Tryz.ntmps3
    go_wp2_with (go_at_call 14; refine (cW _ (Below.refl _ _)).mono ?_; rintro e w6 ⟨rfl, hb6⟩)
    go_ret
    exact ⟨rfl, hb6⟩
  by_cases h2 : (20 : Int) < t.length
  · go_enter Tryz.func3, Tryz.ntmps3
    go_wp2_with (go_at_call 14; refine (cW _ (Below.refl _ _)).mono ?_; rintro e w6 ⟨rfl, hb6⟩)
    go_ret
    exact ⟨rfl, hb6⟩
  have hp20 : p.length ≤ 200 := by omega
  generalize greatB l = g3 at cB
  generalize greatU t = g2 at cG
  go_enter Tryz.func3, Tryz.ntmps3
  cases g2
  rotate_left 1
  · go_wp2_with (first
      | (go_at_call 12; refine cG.mono ?_; rintro e w5 ⟨rfl, hb5⟩)
      | (go_at_call 14; refine (cW _ hb5).mono ?_; rintro e w6 ⟨rfl, hb6⟩))
    go_ret
    exact ⟨rfl, hb5.trans (hb6.mono hb5.size)⟩
  cases g3
  rotate_left 1
  · go_wp2_with (first
      | (go_at_call 12; refine cG.mono ?_; rintro e w5 ⟨rfl, hb5⟩)
      | (go_at_call 13; refine (cB _ hb5).mono ?_; rintro e w7 ⟨rfl, hb7⟩; have hB7 := hb5.trans (hb7.mono hb5.size))
      | (go_at_call 14; refine (cW _ hB7).mono ?_; rintro e w6 ⟨rfl, hb6⟩))
    go_ret
    exact ⟨rfl, hB7.trans (hb6.mono hB7.size)⟩
  go_upto_region 4 with (first
    | (go_at_call 12; refine cG.mono ?_; rintro e w5 ⟨rfl, hb5⟩)
    | (go_at_call 13; refine (cB _ hb5).mono ?_; rintro e w7 ⟨rfl, hb7⟩))
  have hB7 := hb5.trans (hb7.mono hb5.size)
  clear cG cB hb5 hb7
  go_loopw [7] (fun i wr => ∃ k : Nat, k ≤ p.length ∧ i = .int .i64 k ∧ Below w.heap.size w wr) (fun i _ => p.length - (intOf i).toNat)
  case atStart => exact ⟨0, Nat.zero_le _, rfl, hB7⟩
  case round =>
    obtain ⟨k, hk, rfl, hbr⟩ := hrel
    by_cases hlt : k < p.length
    · obtain ⟨g, o, sv, rfl, _, ⟨a0, a1, a2, a3, a4⟩, hkid⟩ := (HP.out.under hbr).at hlt
      obtain ⟨p3, c3, rfl⟩ := hkid.kids.slice
      have cN := greatN_any hkid
      generalize decide (8192 ≤ p[k].sz 8192) = g1 at cN
      clear hkid
      cases g1
      · go_wp2_with (go_at_call 15; refine cN.mono ?_; rintro e w8 ⟨rfl, hb8⟩)
        go_roundw
        case rel => exact ⟨k + 1, hlt, by go_num, hbr.trans (hb8.mono hbr.size)⟩
        case measure => simp [intOf]; omega
      · go_wp2_with (first
          | (go_at_call 15; refine cN.mono ?_; rintro e w8 ⟨rfl, hb8⟩; have hB8 := hbr.trans (hb8.mono hbr.size))
          | (go_at_call 14; refine (cW _ hB8).mono ?_; rintro e w6 ⟨rfl, hb6⟩))
        go_ret
        exact ⟨rfl, hB8.trans (hb6.mono hB8.size)⟩
    · have cM := mall_any (F := fun _ => True) ⟨HL.out.under hbr, fun _ _ => trivial, HP.out.under hbr, HT.out.under hbr, HB.out.under hbr, hp20⟩
      have cR := fun (W : World) (hb : Below w.heap.size w W) => rall_any (F := fun _ => True) ⟨HL.out.under hb, fun _ _ => trivial, HP.out.under hb, HT.out.under hb, HB.out.under hb, hp20⟩
      generalize allS p t l = q9 at cM cR
      obtain ⟨l9, ok9, er9⟩ := q9
      go_upto_region 10 with (first
        | (go_at_call 16; refine cM.mono ?_; rintro e w9 ⟨v9, l9', ok9', er9', rfl, hl9, hb9, hq9⟩; have hB9 := hbr.trans (hb9.mono hbr.size); cases hq9)
        | (go_at_call 17; refine (cR _ hB9).mono ?_; rintro e w10 ⟨v10, l10', ok10', er10', rfl, hl10, hb10, hq10⟩; have hB10 := hB9.trans (hb10.mono hB9.size); cases hq10))
      have cS := bsame_any (hl9.under hb10) hl10
      rw [sameB_me] at cS
      clear cM cR hl9 hl10
      go_upto_region 13 with (go_at_call 18; refine cS.mono ?_; rintro e w11 ⟨rfl, hb11⟩)
      have hB11 := hB10.trans (hb11.mono hB10.size)
      clear cS hb11
      clear hb9 hb10 hB9 hB10
      go_loopw [14] (fun i wq => ∃ k : Nat, k ≤ p.length ∧ i = .int .i64 k ∧ Below w.heap.size w wq) (fun i _ => p.length - (intOf i).toNat)
      case atStart => exact ⟨0, Nat.zero_le _, rfl, hB11⟩
      case round =>
        obtain ⟨j, hj, rfl, hbq⟩ := hrel
        by_cases hlt2 : j < p.length
        · obtain ⟨g, o, sv, rfl, _, hnode, hkid⟩ := (HP.out.under hbq).at hlt2
          obtain ⟨p3, c3, rfl⟩ := hkid.kids.slice
          have HNODE := Lib.hid hnode
          have HKID := Lib.hid hkid
          obtain ⟨a0, a1, a2, a3, a4⟩ := hnode
          have cF := mFill_any (F := fun _ => True) (HL.out.under hbq) (fun _ _ => trivial) hkid (HB.out.under hbq)
          clear hkid
          generalize hqf : filS p[j] l = qf at cF
          have HQF := Lib.hid hqf
          clear hqf
          obtain ⟨yq, eq⟩ := qf
          go_upto_region 16 with (first
            | (go_at_call 19; refine cF.mono ?_; rintro e w12 ⟨y, yv, er, rfl, hy12, hb12, hq12⟩; cases hq12; obtain ⟨p5, c5, rfl⟩ := hy12.kids.slice; have hn12 : (w12.alloc (.cells #[.int .i8 0, .int .i64 0, .string ⟨#[]⟩, .string ⟨#[]⟩, .slice none 0 0] 37)).heap[w12.heap.size]? = some (.cells (cells5 zeroT (.slice none 0 0)) 37 (0, 0)) := heap_new w12 _)
            | (refine wpList_store_row rfl 37 _ _ rfl w12.heap.size (cells5 yq (.slice p5 yq.l.length c5)) (by kernel_rfl) (by kernel_rfl) 37 (cells5 zeroT (.slice none 0 0)) hn12 (size28 _ _) (by kernel_rfl) (by kernel_rfl) ?_))
          have hr13 := setRow_heap' (cells := cells5 yq (.slice p5 yq.l.length c5)) hn12
          have hb1213 := below_setRow (g := w12.heap.size) (cells := cells5 yq (.slice p5 yq.l.length c5)) (alloc_below w12 (.cells #[.int .i8 0, .int .i64 0, .string ⟨#[]⟩, .string ⟨#[]⟩, .slice none 0 0] 37)) (Nat.le_refl _)
          generalize (w12.alloc (.cells #[.int .i8 0, .int .i64 0, .string ⟨#[]⟩, .string ⟨#[]⟩, .slice none 0 0] 37)).setRow w12.heap.size (cells5 yq (.slice p5 yq.l.length c5)) = w13 at hr13 hb1213 ⊢
          have hbq13 := hb12.trans (hb1213.mono hb12.size)
          have hB13 := hbq.trans (hbq13.mono hbq.size)
          obtain ⟨b0, b1, b2, b3, b4⟩ := HNODE.out.keep (hbq13.block _ HNODE.out.lt)
          have cR := rFill_any (F := fun _ => True) (fun _ _ => trivial) (HKID.out.below hbq13) (HB.out.under hB13)
          rw [HQF.out] at cR
          have hy13 := hy12.below hb1213
          have HY13 := Lib.hid hy13
          have HR13 := Lib.hid hr13
          clear a0 a1 a2 a3 a4 hn12 hy12 hy13 hr13 cF hb12 hb1213
          go_upto_region 17 with (first
            | (go_at_call 20; refine cR.mono ?_; rintro e w14 ⟨z, zv, ez, rfl, hz14, hb14, hq14⟩; cases hq14; obtain ⟨p6, c6, rfl⟩ := hz14.kids.slice; have hn14 : (w14.alloc (.cells #[.int .i8 0, .int .i64 0, .string ⟨#[]⟩, .string ⟨#[]⟩, .slice none 0 0] 37)).heap[w14.heap.size]? = some (.cells (cells5 zeroT (.slice none 0 0)) 37 (0, 0)) := heap_new w14 _)
            | (refine wpList_store_row rfl 37 _ _ rfl w14.heap.size (cells5 yq (.slice p6 yq.l.length c6)) (by kernel_rfl) (by kernel_rfl) 37 (cells5 zeroT (.slice none 0 0)) hn14 (size28 _ _) (by kernel_rfl) (by kernel_rfl) ?_))
          have hr15 := setRow_heap' (cells := cells5 yq (.slice p6 yq.l.length c6)) hn14
          have hb1415 := below_setRow (g := w14.heap.size) (cells := cells5 yq (.slice p6 yq.l.length c6)) (alloc_below w14 (.cells #[.int .i8 0, .int .i64 0, .string ⟨#[]⟩, .string ⟨#[]⟩, .slice none 0 0] 37)) (Nat.le_refl _)
          generalize (w14.alloc (.cells #[.int .i8 0, .int .i64 0, .string ⟨#[]⟩, .string ⟨#[]⟩, .slice none 0 0] 37)).setRow w14.heap.size (cells5 yq (.slice p6 yq.l.length c6)) = w15 at hr15 hb1415 ⊢
          have hb1315 := hb14.trans (hb1415.mono hb14.size)
          have hB15 := hB13.trans (hb1315.mono hB13.size)
          obtain ⟨d0, d1, d2, d3, d4⟩ := node_heap (x := yq) ((hb1315.block _ (Array.getElem?_eq_some_iff.1 HR13.out).1).trans HR13.out)
          obtain ⟨f0, f1, f2, f3, f4⟩ := node_heap (x := yq) hr15
          simp only [Nat.zero_add] at d1 d2 d3 d4 f1 f2 f3 f4
          have cS := rsame_any yq yq w15 _ _ (HY13.out.below hb1315) (hz14.below hb1415)
          rw [same_self] at cS
          have hne : (eq != eq) = false := by simp
          clear b0 b1 b2 b3 b4 hn14 hz14 cR hr15
          go_wp2_with (go_at_call 21; refine cS.mono ?_; rintro e w16 ⟨rfl, hb16⟩)
          go_roundw
          case rel => exact ⟨j + 1, hlt2, by go_num, hB15.trans (hb16.mono hB15.size)⟩
          case measure => simp [intOf]; omega
        · go_wp2_with (go_at_call 14; refine (cW _ hbq).mono ?_; rintro e w6 ⟨rfl, hb6⟩)
          go_ret
          exact ⟨rfl, hbq.trans (hb6.mono hbq.size)⟩
end Go.Proofs.YtmnjcbjfkaoeaaaGreatDoor
