/-
  pleachref17.Without, Same; mail.Same. Conditions: the trees lie as 'TrV' says, the items as 'Items'.
-/
import Derived.Test.YtlhobpknflobgaaGreatDoorMl5
namespace Go.Proofs.YtlhobpknflobgaaGreatDoor
open Go.RowKit

set_option maxHeartbeats 8000000 in
set_option maxRecDepth 100000 in
theorem rwithout_any {F G : Nat → Prop} {w : World} {l : List It} {t : Tr} {v tv : Value} {tag : ByteArray} (hn : l.length ≤ 1000) (hl : Items F w v l) (ht : TrV G w t tv) :
    Calls Tryz.prog 44 #[v, .string tag, .agg #[.int .i8 t.k, .int .i64 t.n, .string t.s, .string t.t, tv]] w (WoPost tag t l w) := by
  have hlen : l.length ≤ 2199023255552 := by omega
  obtain ⟨p, c, rfl⟩ := hl.slice
  obtain ⟨p2, c2, rfl⟩ := ht.kids.slice
  obtain ⟨i0, hi, hi0, hi1, hi2⟩ := info_parts infoItem
  have hb1 := alloc_below w (.cells #[.int .i8 t.k, .int .i64 t.n, .string t.s, .string t.t, .slice p2 t.l.length c2] 29)
  have m2 := node_heap (heap_new w (.cells #[.int .i8 t.k, .int .i64 t.n, .string t.s, .string t.t, .slice p2 t.l.length c2] 29))
  have hsz1 : (w.alloc (.cells #[.int .i8 t.k, .int .i64 t.n, .string t.s, .string t.t, .slice p2 t.l.length c2] 29)).heap.size = w.heap.size + 1 := by simp
  have hl0 : Items (fun g => g < w.heap.size) w (.slice p l.length c) l := hl.mono fun g _ h => h
  have HL := Lib.hid (hl0.under hb1)
  have HT := Lib.hid (ht.below hb1)
  clear hl ht hl0
  go_enter Tryz.func44, Tryz.ntmps44
  go_upto_region 3 with fail
  generalize w.alloc (.cells #[.int .i8 t.k, .int .i64 t.n, .string t.s, .string t.t, .slice p2 t.l.length c2] 29) = w1 at hb1 hsz1 HL HT m2 ⊢
  have HM2 := Lib.hid m2
  have HZ := Lib.hid (show w.heap.size < w1.heap.size by omega)
  clear m2 hsz1
  go_loopw [7, 8] (fun out i wr => WoRel tag t l w1 out i wr) (fun _ i _ => l.length - (intOf i).toNat)
  case atStart => exact ⟨0, Nat.zero_le _, rfl, [], IRow.nil .., rfl, Below.refl _ _⟩
  case round =>
    obtain ⟨k, hk, rfl, L, hrow, hLm, hbr⟩ := hrel
    obtain ⟨q, cp, rfl⟩ := hrow.slice
    have hB := hb1.trans (hbr.mono hb1.size)
    have HROW := Lib.hid hrow
    have HLM := Lib.hid hLm
    have hLk : L.length ≤ k := by
      have h1 := congrArg List.length hLm
      have h2 := with_len tag t (l.take k)
      rw [List.length_map] at h1
      rw [List.length_take] at h2
      omega
    clear hrow hLm
    by_cases hlt : k < l.length
    · have hz1 := HZ.out
      have hsrc : Items (fun g => g < w1.heap.size) wr (.slice p l.length c) l := (HL.out.under hbr).mono fun g hg _ => by omega
      obtain ⟨g, o, kv, rfl, _, ⟨a0, a1, a2, a3, a4⟩, a5, hkid⟩ := hsrc.at hlt
      obtain ⟨p3, c3, rfl⟩ := hkid.kids.slice
      have hT := with_take (tag := tag) (t := t) hlt
      generalize l[k] = x at a0 a1 a2 a3 a4 a5 hkid hT
      obtain ⟨xt, xo⟩ := x
      dsimp only at a0 a1 a2 a3 a4 a5 hkid hT
      have hbd : Below wr.heap.size wr (wr.drewN 1) := below_drewN (Below.refl _ _) 1
      obtain ⟨t0, t1, t2, t3, t4⟩ := HM2.out.keep (hbr.block _ HZ.out)
      simp only [Nat.zero_add] at t1 t2 t3 t4
      have cI := ris17_any (o := xo) (tag := tag) (hkid.below hbd) ((HT.out.below hbr).below hbd)
      have HKID := Lib.hid hkid
      have HTT := Lib.hid hT
      clear hkid hT hsrc
      cases xo
      case' pos.true =>
        generalize hib : isB xt tag t = ib at cI
        have HIB := Lib.hid hib
        clear hib
        cases ib
      case' pos.true.true =>
        have HN : Hid (withB tag t (l.take (k + 1)) = withB tag t (l.take k)) := by unfold Hid; rw [HTT.out, if_neg (by rw [HIB.out]; simp)]
        go_upto_region 5 with fail
        go_still_tail 13, (by kernel_rfl)
        change wpList _ _ _ _ _ (wr.drewN 1)
        generalize wr.drewN 1 = w4 at hbd cI ⊢
        go_wp2_with (go_at_call 88; refine cI.mono ?_; rintro e w5 ⟨rfl, hb5⟩)
        go_roundw
        case rel => exact ⟨k + 1, hlt, by go_num, L, (HROW.out.under hbd).under hb5, by rw [HLM.out, HN.out], hbr.trans ((hbd.trans (hb5.mono hbd.size)).mono hbr.size)⟩
        case measure => simp [intOf]; omega
      case' pos.false =>
        have HN : Hid (withB tag t (l.take (k + 1)) = withB tag t (l.take k) ++ [⟨xt, false⟩]) := by unfold Hid; rw [HTT.out, if_pos (by simp)]
        go_upto_region 5 with fail
        go_quiet (fail)
        obtain ⟨w5, hw5, hb35⟩ : ∃ w5, w5 = wr.drewN nq ∧ Below wr.heap.size wr w5 := ⟨_, rfl, below_drewN (Below.refl _ _) _⟩
        rw [← hw5]
        clear hw5
      case' pos.true.false =>
        have HN : Hid (withB tag t (l.take (k + 1)) = withB tag t (l.take k) ++ [⟨xt, true⟩]) := by unfold Hid; rw [HTT.out, if_pos (by rw [HIB.out]; rfl)]
        go_upto_region 5 with fail
        go_still_tail 13, (by kernel_rfl)
        change wpList _ _ _ _ _ (wr.drewN 1)
        generalize wr.drewN 1 = w4 at hbd cI ⊢
        go_upto_region 6 with (go_at_call 88; refine cI.mono ?_; rintro e w5 ⟨rfl, hb5⟩)
        have hb35 := hbd.trans (hb5.mono hbd.size)
      all_goals
        have b0 := (hb35.cell (p := ⟨g, o + k * 6, none⟩) (cell_block a0)).trans a0
        have b1 := (hb35.cell (p := ⟨g, o + k * 6 + 1, none⟩) (cell_block a1)).trans a1
        have b2 := (hb35.cell (p := ⟨g, o + k * 6 + 2, none⟩) (cell_block a2)).trans a2
        have b3 := (hb35.cell (p := ⟨g, o + k * 6 + 3, none⟩) (cell_block a3)).trans a3
        have b4 := (hb35.cell (p := ⟨g, o + k * 6 + 4, none⟩) (cell_block a4)).trans a4
        have b5 := (hb35.cell (p := ⟨g, o + k * 6 + 5, none⟩) (cell_block a5)).trans a5
        have hrow5 := HROW.out.under hb35
        have hbw5 : Below w1.heap.size w1 w5 := hbr.trans (hb35.mono hbr.size)
        have hxp : TrV (fun g => g < w1.heap.size) w5 xt (.slice p3 xt.l.length c3) := HKID.out.below hb35
        have HXP := Lib.hid hxp
        have hL1 : L.length ≤ 1000 := by omega
        clear hxp a0 a1 a2 a3 a4 a5
      case pos.false =>
        have hb5a := alloc_below w5 (.cells (icells (⟨xt, false⟩, .slice p3 xt.l.length c3)).toArray 65)
        have hrow6 := hrow5.under hb5a
        have hown6 := hrow6.own
        have HR6 := Lib.hid hrow6
        have hsz6 : w1.heap.size ≤ (w5.alloc (.cells (icells (⟨xt, false⟩, .slice p3 xt.l.length c3)).toArray 65)).heap.size := by have := hbw5.size; simp; omega
        clear hrow6 hrow5
        go_wp2_with (at_builtin; refine wpList_append_own _ rfl (.tmp 31) (.tmp 36) 55 rfl w1.heap.size 65 i0 _ 6 80 Tryz.underlying55 hi hi0 hi1 hi2 rfl (by decide) _ L.length (L.flatMap icells) rfl hown6 ⟨w5.heap.size, 0, none⟩ 1 1 (icells (⟨xt, false⟩, .slice p3 xt.l.length c3)) rfl rfl (cells_at_new w5 (icells (⟨xt, false⟩, .slice p3 xt.l.length c3)) 65) (icells_plain (q := (⟨xt, false⟩, .slice p3 xt.l.length c3)) HXP.out) (by unfold maxLen; omega) (by omega) hsz6 ?_; intro v8 w8 hown8 hgrow8 hnil8)
        have hb68 : Below w1.heap.size (w5.alloc (.cells (icells (⟨xt, false⟩, .slice p3 xt.l.length c3)).toArray 65)) w8 := (Below.refl _ _).grown hgrow8 hsz6 (row_base HR6.out.own)
        have hrow8 := HR6.out.push (b := ⟨xt, false⟩) (HXP.out.below hb5a) hown8 hb68
        have hB8 := (hbw5.trans (hb5a.mono hbw5.size)).trans hb68
        go_roundw
        case rel => exact ⟨k + 1, hlt, by go_num, _, hrow8, by rw [List.map_append, HLM.out, HN.out]; rfl, hB8⟩
        case measure => simp [intOf]; omega
      case pos.true.false =>
        have hb5a := alloc_below w5 (.cells (icells (⟨xt, true⟩, .slice p3 xt.l.length c3)).toArray 65)
        have hrow6 := hrow5.under hb5a
        have hown6 := hrow6.own
        have HR6 := Lib.hid hrow6
        have hsz6 : w1.heap.size ≤ (w5.alloc (.cells (icells (⟨xt, true⟩, .slice p3 xt.l.length c3)).toArray 65)).heap.size := by have := hbw5.size; simp; omega
        clear hrow6 hrow5
        go_wp2_with (at_builtin; refine wpList_append_own _ rfl (.tmp 31) (.tmp 36) 55 rfl w1.heap.size 65 i0 _ 6 80 Tryz.underlying55 hi hi0 hi1 hi2 rfl (by decide) _ L.length (L.flatMap icells) rfl hown6 ⟨w5.heap.size, 0, none⟩ 1 1 (icells (⟨xt, true⟩, .slice p3 xt.l.length c3)) rfl rfl (cells_at_new w5 (icells (⟨xt, true⟩, .slice p3 xt.l.length c3)) 65) (icells_plain (q := (⟨xt, true⟩, .slice p3 xt.l.length c3)) HXP.out) (by unfold maxLen; omega) (by omega) hsz6 ?_; intro v8 w8 hown8 hgrow8 hnil8)
        have hb68 : Below w1.heap.size (w5.alloc (.cells (icells (⟨xt, true⟩, .slice p3 xt.l.length c3)).toArray 65)) w8 := (Below.refl _ _).grown hgrow8 hsz6 (row_base HR6.out.own)
        have hrow8 := HR6.out.push (b := ⟨xt, true⟩) (HXP.out.below hb5a) hown8 hb68
        have hB8 := (hbw5.trans (hb5a.mono hbw5.size)).trans hb68
        go_roundw
        case rel => exact ⟨k + 1, hlt, by go_num, _, hrow8, by rw [List.map_append, HLM.out, HN.out]; rfl, hB8⟩
        case measure => simp [intOf]; omega
    · have hlm := HLM.out
      rw [List.take_of_length_le (by omega)] at hlm
      have hit : Items (fun _ => True) wr (.slice q L.length cp) (withB tag t l) := by
        have := HROW.out.items (by unfold BL; omega)
        rwa [hlm] at this
      have HIT := Lib.hid hit
      clear hlm hit
      go_wp2
      go_ret
      exact ⟨_, rfl, HIT.out, hB⟩

/-- The same mailboxes? -/
def sameI : List It → List It → Bool
  | [], [] => true
  | x :: r, y :: s => (x.o == y.o && x.t.same y.t) && sameI r s
  | _, _ => false
theorem sameI_drop {l m : List It} {k : Nat} (h1 : k < l.length) (h2 : k < m.length) : sameI (l.drop k) (m.drop k) = ((l[k].o == m[k].o && l[k].t.same m[k].t) && sameI (l.drop (k + 1)) (m.drop (k + 1))) := by
  rw [List.drop_eq_getElem_cons h1, List.drop_eq_getElem_cons h2, sameI]
theorem sameI_len : ∀ {l m : List It}, sameI l m = true → l.length = m.length
  | [], [], _ => rfl
  | x :: r, y :: s, h => by rw [sameI, Bool.and_eq_true] at h; simp [sameI_len h.2]
theorem sameI_self : ∀ l : List It, sameI l l = true
  | [] => rfl
  | x :: r => by rw [sameI, sameI_self r, same_self]; simp

set_option maxHeartbeats 8000000 in
set_option maxRecDepth 100000 in
theorem rsame17_any {F G : Nat → Prop} {w : World} {l m : List It} {v u : Value} (hl : Items F w v l) (hm : Items G w u m) :
    Calls Tryz.prog 42 #[v, u] w fun e w' => e = .returned (.bool (sameI l m)) ∧ Below w.heap.size w w' := by
  have hlen : l.length ≤ 2199023255552 := hl.len
  have hlen2 : m.length ≤ 2199023255552 := hm.len
  obtain ⟨p, c, rfl⟩ := hl.slice
  obtain ⟨p2, c2, rfl⟩ := hm.slice
  have HL := Lib.hid hl
  have HM := Lib.hid hm
  clear hl hm
  cases e4 : ((l.length : Int) == (m.length : Int))
  · have g4 : ((l.length : Int) != (m.length : Int)) = true := by simpa using e4
    have HE : Hid (sameI l m = false) := by
      unfold Hid
      cases h : sameI l m
      · rfl
      · have := sameI_len h; rw [this] at e4; simp at e4
    clear e4
    go_enter Tryz.func42, Tryz.ntmps42
    go_wp2_with fail
    go_ret
    exact ⟨by rw [HE.out]; rfl, Below.refl _ _⟩
  have g4 : ((l.length : Int) != (m.length : Int)) = false := by simpa using e4
  have hll : l.length = m.length := by have := beq_iff_eq.1 e4; omega
  have HLL := Lib.hid hll
  clear e4 hll
  go_enter Tryz.func42, Tryz.ntmps42
  go_upto_region 4 with fail
  clear g4
  go_loopw [5] (fun i wr => ∃ k : Nat, k ≤ l.length ∧ i = .int .i64 k ∧ sameI (l.drop k) (m.drop k) = sameI l m ∧ Below w.heap.size w wr) (fun i _ => l.length - (intOf i).toNat)
  case atStart => exact ⟨0, Nat.zero_le _, rfl, rfl, Below.refl _ _⟩
  case round =>
    obtain ⟨k, hk, rfl, hrest, hbr⟩ := hrel
    have HREST := Lib.hid hrest
    clear hrest
    by_cases hlt : k < l.length
    · have hlt2 : k < m.length := by have := HLL.out; omega
      obtain ⟨g, o, kv, rfl, _, ⟨a0, a1, a2, a3, a4⟩, a5, hkid⟩ := (HL.out.under hbr).at hlt
      obtain ⟨g2, o2, kv2, rfl, _, ⟨b0, b1, b2, b3, b4⟩, b5, hkid2⟩ := (HM.out.under hbr).at hlt2
      obtain ⟨p3, c3, rfl⟩ := hkid.kids.slice
      obtain ⟨p4, c4, rfl⟩ := hkid2.kids.slice
      have hbd : Below wr.heap.size wr (wr.drewN 1) := below_drewN (Below.refl _ _) 1
      have cS := rsame_any l[k].t m[k].t (wr.drewN 1) _ _ (hkid.below hbd) (hkid2.below hbd)
      have hd := HREST.out
      rw [sameI_drop hlt hlt2] at hd
      clear hkid hkid2
      generalize l[k].t.same m[k].t = sb at cS hd
      generalize l[k].o = lo at *
      generalize m[k].o = mo at *
      by_cases heq : lo = mo
      · subst heq
        have hd2 : (sb && sameI (l.drop (k + 1)) (m.drop (k + 1))) = sameI l m := by rw [← hd]; simp
        have HD := Lib.hid hd2
        clear hd hd2
        cases sb
        · go_upto_region 6 with fail
          go_still_tail 22, (by kernel_rfl)
          change wpList _ _ _ _ _ (wr.drewN 1)
          generalize wr.drewN 1 = w4 at hbd cS ⊢
          go_wp2_with (go_at_call 25; refine cS.mono ?_; rintro e w5 ⟨rfl, hb5⟩)
          go_ret
          exact ⟨by rw [← HD.out]; rfl, hbr.trans ((hbd.trans (hb5.mono hbd.size)).mono hbr.size)⟩
        · go_upto_region 6 with fail
          go_still_tail 22, (by kernel_rfl)
          change wpList _ _ _ _ _ (wr.drewN 1)
          generalize wr.drewN 1 = w4 at hbd cS ⊢
          go_wp2_with (go_at_call 25; refine cS.mono ?_; rintro e w5 ⟨rfl, hb5⟩)
          go_roundw
          case rel => exact ⟨k + 1, hlt, by go_num, by rw [← HD.out]; rfl, hbr.trans ((hbd.trans (hb5.mono hbd.size)).mono hbr.size)⟩
          case measure => simp [intOf]; omega
      · have hd2 : sameI l m = false := by rw [← hd]; simp [heq]
        have HD := Lib.hid hd2
        clear hd hd2 cS
        cases lo <;> cases mo
        case' neg.false.false => exact absurd rfl heq
        case' neg.true.true => exact absurd rfl heq
        all_goals
          clear heq
          go_upto_region 6 with fail
          go_quiet (fail)
          go_wp2_with fail
          go_ret
          exact ⟨by rw [HD.out]; rfl, below_drewN hbr _⟩
    · have hd := HREST.out
      rw [List.drop_eq_nil_of_le (by omega), List.drop_eq_nil_of_le (by have := HLL.out; omega)] at hd
      have HD := Lib.hid hd
      clear hd
      go_wp2
      go_ret
      exact ⟨by rw [← HD.out]; rfl, hbr⟩
end Go.Proofs.YtlhobpknflobgaaGreatDoor
