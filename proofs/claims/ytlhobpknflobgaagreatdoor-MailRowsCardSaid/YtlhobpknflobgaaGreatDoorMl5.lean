/-
  pleachref17.First; mail.Without, pleachref17.Without. Conditions: the trees lie as 'TrV' says, the items as 'Items'.
-/
import Derived.Test.YtlhobpknflobgaaGreatDoorMl4
namespace Go.Proofs.YtlhobpknflobgaaGreatDoor
open Go.RowKit

set_option maxHeartbeats 4000000 in
set_option maxRecDepth 100000 in
theorem rfirst17_any {F G : Nat → Prop} {w : World} {l : List It} {t : Tr} {v tv : Value} {tag : ByteArray} {ours : Bool} (hl : Items F w v l) (ht : TrV G w t tv) :
    Calls Tryz.prog 41 #[v, .string tag, .agg #[.int .i8 t.k, .int .i64 t.n, .string t.s, .string t.t, tv], .bool ours] w fun e w' => e = .returned (pickV (idxB (askB tag t ours) l)) ∧ Below w.heap.size w w' := by
  have HV := Lib.hid (show pickV (idxB (askB tag t ours) l) = .tuple #[.int .i64 (if 0 ≤ idxB (askB tag t ours) l then idxB (askB tag t ours) l else 0), .bool (decide (0 ≤ idxB (askB tag t ours) l))] from rfl)
  generalize hpv : pickV (idxB (askB tag t ours) l) = pv at HV ⊢
  clear hpv
  have hlen : l.length ≤ 2199023255552 := hl.len
  obtain ⟨p, c, rfl⟩ := hl.slice
  obtain ⟨p2, c2, rfl⟩ := ht.kids.slice
  have hb1 := alloc_below w (.cells #[.int .i8 t.k, .int .i64 t.n, .string t.s, .string t.t, .slice p2 t.l.length c2] 29)
  have m2 := node_heap (heap_new w (.cells #[.int .i8 t.k, .int .i64 t.n, .string t.s, .string t.t, .slice p2 t.l.length c2] 29))
  have hsz1 : (w.alloc (.cells #[.int .i8 t.k, .int .i64 t.n, .string t.s, .string t.t, .slice p2 t.l.length c2] 29)).heap.size = w.heap.size + 1 := by simp
  have HL := Lib.hid (hl.under hb1)
  have HT := Lib.hid (ht.below hb1)
  clear hl ht
  go_enter Tryz.func41, Tryz.ntmps41
  go_upto_region 2 with fail
  generalize w.alloc (.cells #[.int .i8 t.k, .int .i64 t.n, .string t.s, .string t.t, .slice p2 t.l.length c2] 29) = w1 at hb1 hsz1 HL HT m2 ⊢
  have HM2 := Lib.hid m2
  have HZ := Lib.hid (show w.heap.size < w1.heap.size by omega)
  clear m2 hsz1
  go_loopw [10] (fun i wr => ∃ k : Nat, k ≤ l.length ∧ i = .int .i64 k ∧ (l.take k).all (fun x => !askB tag t ours x) = true ∧ Below w1.heap.size w1 wr) (fun i _ => l.length - (intOf i).toNat)
  case atStart => exact ⟨0, Nat.zero_le _, rfl, rfl, Below.refl _ _⟩
  case round =>
    obtain ⟨k, hk, rfl, hall, hbr⟩ := hrel
    have hB := hb1.trans (hbr.mono hb1.size)
    by_cases hlt : k < l.length
    · obtain ⟨g, o, kv, rfl, _, ⟨a0, a1, a2, a3, a4⟩, a5, hkid⟩ := (HL.out.under hbr).at hlt
      obtain ⟨p3, c3, rfl⟩ := hkid.kids.slice
      obtain ⟨b0, b1, b2, b3, b4⟩ := HM2.out.keep (hbr.block _ HZ.out)
      simp only [Nat.zero_add] at b1 b2 b3 b4
      have hbd : Below wr.heap.size wr (wr.drewN 1) := below_drewN (Below.refl _ _) 1
      have cI := ris17_any (o := l[k].o) (tag := tag) (hkid.below hbd) ((HT.out.below hbr).below hbd)
      have hA : askB tag t ours l[k] = ((l[k].o || !ours) && isB l[k].t tag t) := rfl
      have hstop : askB tag t ours l[k] = true → Hid (pv = .tuple #[.int .i64 k, .bool true]) := fun h => by unfold Hid; rw [HV.out, idx_here hlt hall h]; simp
      have hnext : askB tag t ours l[k] = false → Hid ((l.take (k + 1)).all (fun x => !askB tag t ours x) = true) := fun h => by
        unfold Hid; rw [List.take_succ_eq_append_getElem hlt, List.all_append, hall]; simp [h]
      rw [hA] at hstop hnext
      clear hkid hall hA
      generalize isB l[k].t tag t = ib at cI hstop hnext
      generalize l[k].o = ko at *
      cases hq : (ko || !ours)
      · rw [hq] at hnext
        have HN := hnext rfl
        clear hstop hnext cI
        simp only [Bool.or_eq_false_iff, Bool.not_eq_false'] at hq
        obtain ⟨rfl, rfl⟩ := hq
        go_upto_region 4 with fail
        go_quiet (fail)
        go_wp2_with fail
        go_roundw
        case rel => exact ⟨k + 1, hlt, by go_num, HN.out, below_drewN hbr _⟩
        case measure => simp [intOf]; omega
      · rw [hq] at hnext hstop
        have hko : ko = true ∨ ko = false ∧ ours = false := by cases ko <;> cases ours <;> simp at hq ⊢
        clear hq
        cases ib
        · have HN := hnext rfl
          clear hstop hnext
          rcases hko with rfl | ⟨rfl, rfl⟩
          all_goals
            go_upto_region 4 with fail
            go_still_tail 16, (by kernel_rfl)
            change wpList _ _ _ _ _ (wr.drewN 1)
            generalize wr.drewN 1 = w4 at hbd cI ⊢
            go_wp2_with (go_at_call 88; refine cI.mono ?_; rintro e w5 ⟨rfl, hb5⟩)
            go_roundw
            case rel => exact ⟨k + 1, hlt, by go_num, HN.out, hbr.trans ((hbd.trans (hb5.mono hbd.size)).mono hbr.size)⟩
            case measure => simp [intOf]; omega
        · have HS := hstop rfl
          clear hstop hnext
          rcases hko with rfl | ⟨rfl, rfl⟩
          all_goals
            go_upto_region 4 with fail
            go_still_tail 16, (by kernel_rfl)
            change wpList _ _ _ _ _ (wr.drewN 1)
            generalize wr.drewN 1 = w4 at hbd cI ⊢
            go_wp2_with (go_at_call 88; refine cI.mono ?_; rintro e w5 ⟨rfl, hb5⟩)
            go_ret2
            exact ⟨by rw [HS.out] <;> rfl, hB.trans ((hbd.trans (hb5.mono hbd.size)).mono hB.size)⟩
    · rw [List.take_of_length_le (by omega)] at hall
      have HN : Hid (pv = .tuple #[.int .i64 0, .bool false]) := by unfold Hid; rw [HV.out, idx_none hall]; rfl
      clear hall
      go_wp2
      go_ret2
      exact ⟨by rw [HN.out] <;> rfl, hB⟩

/-- What Without tells. -/
def withB (tag : ByteArray) (t : Tr) (l : List It) : List It := l.filter fun x => !x.o || !isB x.t tag t
theorem with_take {tag : ByteArray} {t : Tr} {l : List It} {k : Nat} (hk : k < l.length) : withB tag t (l.take (k + 1)) = if (!l[k].o || !isB l[k].t tag t) = true then withB tag t (l.take k) ++ [l[k]] else withB tag t (l.take k) := by
  unfold withB
  rw [List.take_succ_eq_append_getElem hk, List.filter_append]
  cases h : (!l[k].o || !isB l[k].t tag t) <;> simp [List.filter, h]
theorem with_len (tag : ByteArray) (t : Tr) (l : List It) : (withB tag t l).length ≤ l.length := List.length_filter_le ..
/-- What the round knows. -/
def WoRel (tag : ByteArray) (t : Tr) (l : List It) (w1 : World) (out i : Value) (wr : World) : Prop :=
  ∃ k : Nat, k ≤ l.length ∧ i = .int .i64 k ∧ ∃ L : List (It × Value), IRow w1.heap.size wr out L ∧ L.map (·.1) = withB tag t (l.take k) ∧ Below w1.heap.size w1 wr
def WoPost (tag : ByteArray) (t : Tr) (l : List It) (w : World) (e : Ending) (w' : World) : Prop := ∃ v, e = .returned v ∧ Items (fun _ => True) w' v (withB tag t l) ∧ Below w.heap.size w w'

set_option maxHeartbeats 8000000 in
set_option maxRecDepth 100000 in
theorem without_any {F G : Nat → Prop} {w : World} {l : List It} {t : Tr} {v tv : Value} {tag : ByteArray} (hn : l.length ≤ 1000) (hl : Items F w v l) (ht : TrV G w t tv) :
    Calls Tryz.prog 43 #[v, .string tag, .agg #[.int .i8 t.k, .int .i64 t.n, .string t.s, .string t.t, tv]] w (WoPost tag t l w) := by
  have hlen : l.length ≤ 2199023255552 := by omega
  obtain ⟨p, c, rfl⟩ := hl.slice
  obtain ⟨p2, c2, rfl⟩ := ht.kids.slice
  obtain ⟨i0, hi, hi0, hi1, hi2⟩ := info_parts infoItem
  have hb1 := alloc_below w (.cells #[.int .i8 t.k, .int .i64 t.n, .string t.s, .string t.t, .slice p2 t.l.length c2] 29)
  have m2 := node_heap (heap_new w (.cells #[.int .i8 t.k, .int .i64 t.n, .string t.s, .string t.t, .slice p2 t.l.length c2] 29))
  have hsz1 : (w.alloc (.cells #[.int .i8 t.k, .int .i64 t.n, .string t.s, .string t.t, .slice p2 t.l.length c2] 29)).heap.size = w.heap.size + 1 := by simp
  have hl0 : Items (fun g => g < w.heap.size) w (.slice p l.length c) l := hl.mono fun g _ h => h
  have HL := Lib.hid (hl0.under hb1)
  have HT := Lib.hid (ht.below hb1)
  clear hl ht hl0
  go_enter Tryz.func43, Tryz.ntmps43
  go_upto_region 2 with fail
  generalize w.alloc (.cells #[.int .i8 t.k, .int .i64 t.n, .string t.s, .string t.t, .slice p2 t.l.length c2] 29) = w1 at hb1 hsz1 HL HT m2 ⊢
  have HM2 := Lib.hid m2
  have HZ := Lib.hid (show w.heap.size < w1.heap.size by omega)
  clear m2 hsz1
  go_loopw [6, 11] (fun out i wr => WoRel tag t l w1 out i wr) (fun _ i _ => l.length - (intOf i).toNat)
  case atStart => exact ⟨0, Nat.zero_le _, rfl, [], IRow.nil .., rfl, Below.refl _ _⟩
  case round =>
    obtain ⟨k, hk, rfl, L, hrow, hLm, hbr⟩ := hrel
    obtain ⟨q, cp, rfl⟩ := hrow.slice
    have hB := hb1.trans (hbr.mono hb1.size)
    have HROW := Lib.hid hrow
    have HLM := Lib.hid hLm
    have hLk : L.length ≤ k := by
      have h1 := congrArg List.length hLm
      have h2 := with_len tag t (l.take k)
      rw [List.length_map] at h1
      rw [List.length_take] at h2
      omega
    clear hrow hLm
    by_cases hlt : k < l.length
    · have hz1 := HZ.out
      have hsrc : Items (fun g => g < w1.heap.size) wr (.slice p l.length c) l := (HL.out.under hbr).mono fun g hg _ => by omega
      obtain ⟨g, o, kv, rfl, _, ⟨a0, a1, a2, a3, a4⟩, a5, hkid⟩ := hsrc.at hlt
      obtain ⟨p3, c3, rfl⟩ := hkid.kids.slice
      have hT := with_take (tag := tag) (t := t) hlt
      generalize l[k] = x at a0 a1 a2 a3 a4 a5 hkid hT
      obtain ⟨xt, xo⟩ := x
      dsimp only at a0 a1 a2 a3 a4 a5 hkid hT
      have hb3 := alloc_below wr (.cells #[.int .i8 xt.k, .int .i64 xt.n, .string xt.s, .string xt.t, .slice p3 xt.l.length c3, .bool xo] 65)
      obtain ⟨⟨b0, b1, b2, b3, b4⟩, b5⟩ := item_heap (heap_new wr (.cells #[.int .i8 xt.k, .int .i64 xt.n, .string xt.s, .string xt.t, .slice p3 xt.l.length c3, .bool xo] 65))
      simp only [Nat.zero_add] at b1 b2 b3 b4
      have hbr3 := hbr.trans (hb3.mono hbr.size)
      obtain ⟨t0, t1, t2, t3, t4⟩ := HM2.out.keep (hbr3.block _ HZ.out)
      simp only [Nat.zero_add] at t1 t2 t3 t4
      have cI := is17_any (o := xo) (tag := tag) (hkid.below hb3) (HT.out.below hbr3)
      have HKID := Lib.hid hkid
      have HTT := Lib.hid hT
      have hrow3 := HROW.out.under hb3
      have HR3 := Lib.hid hrow3
      have hB3 := hb1.trans (hbr3.mono hb1.size)
      clear hkid hT hsrc hrow3
      cases xo
      case' pos.true =>
        generalize hib : isB xt tag t = ib at cI
        have HIB := Lib.hid hib
        clear hib
        cases ib
      case' pos.true.true =>
        have HN : Hid (withB tag t (l.take (k + 1)) = withB tag t (l.take k)) := by unfold Hid; rw [HTT.out, if_neg (by rw [HIB.out]; simp)]
        go_wp2_with (go_at_call 87; refine cI.mono ?_; rintro e w5 ⟨rfl, hb5⟩)
        go_roundw
        case rel => exact ⟨k + 1, hlt, by go_num, L, HR3.out.under hb5, by rw [HLM.out, HN.out], hbr3.trans (hb5.mono hbr3.size)⟩
        case measure => simp [intOf]; omega
      case' pos.false =>
        have HN : Hid (withB tag t (l.take (k + 1)) = withB tag t (l.take k) ++ [⟨xt, false⟩]) := by unfold Hid; rw [HTT.out, if_pos (by simp)]
        go_upto_region 5 with fail
        have hrow5 := HR3.out
        have hb35 : Below (wr.alloc (.cells #[.int .i8 xt.k, .int .i64 xt.n, .string xt.s, .string xt.t, .slice p3 xt.l.length c3, .bool false] 65)).heap.size (wr.alloc (.cells #[.int .i8 xt.k, .int .i64 xt.n, .string xt.s, .string xt.t, .slice p3 xt.l.length c3, .bool false] 65)) (wr.alloc (.cells #[.int .i8 xt.k, .int .i64 xt.n, .string xt.s, .string xt.t, .slice p3 xt.l.length c3, .bool false] 65)) := Below.refl _ _
        generalize (wr.alloc (.cells #[.int .i8 xt.k, .int .i64 xt.n, .string xt.s, .string xt.t, .slice p3 xt.l.length c3, .bool false] 65)) = w5 at *
      case' pos.true.false =>
        have HN : Hid (withB tag t (l.take (k + 1)) = withB tag t (l.take k) ++ [⟨xt, true⟩]) := by unfold Hid; rw [HTT.out, if_pos (by rw [HIB.out]; rfl)]
        go_upto_region 5 with (go_at_call 87; refine cI.mono ?_; rintro e w5 ⟨rfl, hb35⟩)
        have hrow5 := HR3.out.under hb35
        have b0 := (hb35.cell (p := ⟨wr.heap.size, 0, none⟩) (cell_block b0)).trans b0
        have b1 := (hb35.cell (p := ⟨wr.heap.size, 1, none⟩) (cell_block b1)).trans b1
        have b2 := (hb35.cell (p := ⟨wr.heap.size, 2, none⟩) (cell_block b2)).trans b2
        have b3 := (hb35.cell (p := ⟨wr.heap.size, 3, none⟩) (cell_block b3)).trans b3
        have b4 := (hb35.cell (p := ⟨wr.heap.size, 4, none⟩) (cell_block b4)).trans b4
        have b5 := (hb35.cell (p := ⟨wr.heap.size, 5, none⟩) (cell_block b5)).trans b5
      case pos.false =>
        have hb5a := alloc_below w5 (.cells (icells (⟨xt, false⟩, .slice p3 xt.l.length c3)).toArray 65)
        have hrow6 := hrow5.under hb5a
        have hown6 := hrow6.own
        have HR6 := Lib.hid hrow6
        have hbw5 : Below w1.heap.size w1 w5 := hbr3.trans (hb35.mono hbr3.size)
        have hsz6 : w1.heap.size ≤ (w5.alloc (.cells (icells (⟨xt, false⟩, .slice p3 xt.l.length c3)).toArray 65)).heap.size := by have := hbw5.size; simp; omega
        have hxp : TrV (fun g => g < w1.heap.size) w5 xt (.slice p3 xt.l.length c3) := (HKID.out.below hb3).below hb35
        have HXP := Lib.hid hxp
        have hL1 : L.length ≤ 1000 := by omega
        clear hrow6 hrow5 hxp
        go_wp2_with (at_builtin; refine wpList_append_own _ rfl (.tmp 25) (.tmp 27) 55 rfl w1.heap.size 65 i0 _ 6 80 Tryz.underlying55 hi hi0 hi1 hi2 rfl (by decide) _ L.length (L.flatMap icells) rfl hown6 ⟨w5.heap.size, 0, none⟩ 1 1 (icells (⟨xt, false⟩, .slice p3 xt.l.length c3)) rfl rfl (cells_at_new w5 (icells (⟨xt, false⟩, .slice p3 xt.l.length c3)) 65) (icells_plain (q := (⟨xt, false⟩, .slice p3 xt.l.length c3)) HXP.out) (by unfold maxLen; omega) (by omega) hsz6 ?_; intro v8 w8 hown8 hgrow8 hnil8)
        have hb68 : Below w1.heap.size (w5.alloc (.cells (icells (⟨xt, false⟩, .slice p3 xt.l.length c3)).toArray 65)) w8 := (Below.refl _ _).grown hgrow8 hsz6 (row_base HR6.out.own)
        have hrow8 := HR6.out.push (b := ⟨xt, false⟩) (HXP.out.below hb5a) hown8 hb68
        have hB8 := (hbw5.trans (hb5a.mono hbw5.size)).trans hb68
        go_roundw
        case rel => exact ⟨k + 1, hlt, by go_num, _, hrow8, by rw [List.map_append, HLM.out, HN.out]; rfl, hB8⟩
        case measure => simp [intOf]; omega
      case pos.true.false =>
        have hb5a := alloc_below w5 (.cells (icells (⟨xt, true⟩, .slice p3 xt.l.length c3)).toArray 65)
        have hrow6 := hrow5.under hb5a
        have hown6 := hrow6.own
        have HR6 := Lib.hid hrow6
        have hbw5 : Below w1.heap.size w1 w5 := hbr3.trans (hb35.mono hbr3.size)
        have hsz6 : w1.heap.size ≤ (w5.alloc (.cells (icells (⟨xt, true⟩, .slice p3 xt.l.length c3)).toArray 65)).heap.size := by have := hbw5.size; simp; omega
        have hxp : TrV (fun g => g < w1.heap.size) w5 xt (.slice p3 xt.l.length c3) := (HKID.out.below hb3).below hb35
        have HXP := Lib.hid hxp
        have hL1 : L.length ≤ 1000 := by omega
        clear hrow6 hrow5 hxp
        go_wp2_with (at_builtin; refine wpList_append_own _ rfl (.tmp 25) (.tmp 27) 55 rfl w1.heap.size 65 i0 _ 6 80 Tryz.underlying55 hi hi0 hi1 hi2 rfl (by decide) _ L.length (L.flatMap icells) rfl hown6 ⟨w5.heap.size, 0, none⟩ 1 1 (icells (⟨xt, true⟩, .slice p3 xt.l.length c3)) rfl rfl (cells_at_new w5 (icells (⟨xt, true⟩, .slice p3 xt.l.length c3)) 65) (icells_plain (q := (⟨xt, true⟩, .slice p3 xt.l.length c3)) HXP.out) (by unfold maxLen; omega) (by omega) hsz6 ?_; intro v8 w8 hown8 hgrow8 hnil8)
        have hb68 : Below w1.heap.size (w5.alloc (.cells (icells (⟨xt, true⟩, .slice p3 xt.l.length c3)).toArray 65)) w8 := (Below.refl _ _).grown hgrow8 hsz6 (row_base HR6.out.own)
        have hrow8 := HR6.out.push (b := ⟨xt, true⟩) (HXP.out.below hb5a) hown8 hb68
        have hB8 := (hbw5.trans (hb5a.mono hbw5.size)).trans hb68
        go_roundw
        case rel => exact ⟨k + 1, hlt, by go_num, _, hrow8, by rw [List.map_append, HLM.out, HN.out]; rfl, hB8⟩
        case measure => simp [intOf]; omega
    · have hlm := HLM.out
      rw [List.take_of_length_le (by omega)] at hlm
      have hit : Items (fun _ => True) wr (.slice q L.length cp) (withB tag t l) := by
        have := HROW.out.items (by unfold BL; omega)
        rwa [hlm] at this
      have HIT := Lib.hid hit
      clear hlm hit
      go_wp2
      go_ret
      exact ⟨_, rfl, HIT.out, hB⟩
end Go.Proofs.YtlhobpknflobgaaGreatDoor
