/-
  The reference's Gone. Conditions: as said.
-/
import Derived.Test.YtjkdmdddgiomjaaRef6
namespace Go.Proofs.Ytjkdmdddgiomjaa
open Go.RowKit Go.Maps

section
variable {w w' : World} {R : Nat} {ll : List (Int × Int)} {M : List (Int × Int × Int)} {last : Int} {vL vM : Value}
theorem RefW.setLM (h : RefW w R ll M last vL vM) {wr : World} (hb : Below w.heap.size w wr) {o1 o2 : Value} {ll' : List (Int × Int)} {M' : List (Int × Int × Int)} (h1 : NewPairs w.heap.size wr o1 ll') (h2 : NewSeen w.heap.size wr o2 M') :
    RLeft w R vL vM ll' M' last ((wr.setCell ⟨R, 0, none⟩ o1).setCell ⟨R, 1, none⟩ o2) ∧ Turn (· = R) wr ((wr.setCell ⟨R, 0, none⟩ o1).setCell ⟨R, 1, none⟩ o2) := by
  have hr := h.below hb
  have ht : Turn (· = R) wr ((wr.setCell ⟨R, 0, none⟩ o1).setCell ⟨R, 1, none⟩ o2) := (Turn.setCell wr ⟨R, 0, none⟩ o1).trans (Turn.setCell _ ⟨R, 1, none⟩ o2)
  have hlt := h.lt
  refine ⟨⟨⟨o1, o2, ⟨(head_set (head_set hr.head).1).2.1, ⟨ownsRow_keep (ownsRow_base_a h1.1 (Nat.zero_le _)) ht fun k hk e => ?_, h1.2⟩, ⟨ownsRow_keep (ownsRow_base_a h2.1 (Nat.zero_le _)) ht fun k hk e => ?_, h2.2⟩⟩, fun k hk => ?_⟩, ?_⟩, ht⟩
  · subst e; have := (ownsRow_lt h1.1 _ hk).1; omega
  · subst e; have := (ownsRow_lt h2.1 _ hk).1; omega
  · rcases mem_rblk.1 hk with rfl | hk | hk
    · exact .inl (mem_rblk.2 (.inl rfl))
    · exact .inr (ownsRow_lt h1.1 _ hk).1
    · exact .inr (ownsRow_lt h2.1 _ hk).1
  · exact (Turn.of_below hb).comp ht fun k _ e => by subst e; exact mem_rblk.2 (.inl rfl)

def RGonePost (w : World) (R : Nat) (vL vM : Value) (ll : List (Int × Int)) (M : List (Int × Int × Int)) (last a : Int) (e : Ending) (w' : World) : Prop :=
  ∃ v1 v2, e = .returned (.tuple #[v1, v2, .int .i64 (if a < 1 then 2 else 0)]) ∧ NewInts w w' v1 (if a < 1 then [] else linksR a ll) ∧ NewSeen w.heap.size w' v2 (if a < 1 then [] else M.filter fun m => m.2.2 == a) ∧
    RLeft w R vL vM (if a < 1 then ll else ll.filter fun m => m.1 != a && m.2 != a) (if a < 1 then M else M.filter fun m => m.2.1 != a && m.2.2 != a) last w'

set_option maxHeartbeats 2000000 in
set_option maxRecDepth 100000 in
theorem rgone_any (h : RefW w R ll M last vL vM) (hL : ll.length ≤ 1000) (hM : M.length ≤ 1000) (a : Int) :
    Calls Try.prog 21 #[.pointer (some ⟨R, 0, none⟩), .int .i64 a] w (RGonePost w R vL vM ll M last a) := by
  unfold RGonePost
  by_cases ha : a < 1
  · have hE := h.same (Below.refl _ w)
    simp only [if_pos ha]
    clear h
    go_enter Try.func21, Try.ntmps21
    go_wp2
    go_ret3
    exact ⟨_, _, rfl, ⟨World.ownsRow_nil .., by simp⟩, ⟨World.ownsRow_nil .., by simp⟩, hE⟩
  simp only [if_neg ha]
  have hlinks := rlinks_any h hL a
  have hwch := fun (W : World) (hb : Below w.heap.size w W) => rwatchers_any (h.below hb) (Nat.le_trans hM (by decide)) a
  have hc0 := h.cell0
  have hc1 := h.cell1
  have hR := h.lt
  have hEnd := fun (wr : World) hb (o1 o2 : Value) (l' : List (Int × Int)) (M' : List (Int × Int × Int)) h1 h2 => RefW.setLM h (wr := wr) hb (o1 := o1) (o2 := o2) (ll' := l') (M' := M') h1 h2
  have hfr := fun (wr : World) (hb : Below w.heap.size w wr) => (h.below hb).frozen
  obtain ⟨pl, cl, rfl, hcl, hlcells⟩ := h.rl.at
  obtain ⟨pm, cm, rfl, hcm, hcells⟩ := h.rm.at
  obtain ⟨i0, hi, hz0, hz1, hz2⟩ := info_parts infoSeen
  obtain ⟨i1, hj, hy0, hy1, hy2⟩ := info_parts infoPair
  have HL := Lib.hid hlcells
  have HC := Lib.hid hcells
  clear h hcells hlcells
  obtain ⟨p, hp⟩ : ∃ p : Int × Int → Bool, (fun m => m.1 != a && m.2 != a) = p := ⟨_, rfl⟩
  have HP0 := Lib.hid hp
  obtain ⟨q, hq⟩ : ∃ q : Int × Int × Int → Bool, (fun m => m.2.1 != a && m.2.2 != a) = q := ⟨_, rfl⟩
  have HQ0 := Lib.hid hq
  rw [hp, hq]
  clear hp hq
  go_enter Try.func21, Try.ntmps21
  go_upto_region 6 with (first
    | (go_at_call 24; refine hlinks.mono ?_; rintro e w1 ⟨v1, rfl, hv1, hb1⟩)
    | (go_at_call 27; refine (hwch _ hb1).mono ?_; rintro e w2 ⟨v2, rfl, hv2, hb2⟩))
  have hv1' := hv1.block hb2
  have hB2 := hb1.trans (hb2.mono hb1.size)
  have hv2' : NewSeen w.heap.size w2 v2 (M.filter fun m => m.2.2 == a) := ⟨ownsRow_base_a hv2.1 hb1.size, hv2.2⟩
  obtain ⟨p1, n1, c1, rfl⟩ := ints_slice hv1
  obtain ⟨p2, n2, c2, rfl⟩ := seen_slice hv2
  have hsz0 := hB2.size
  clear hv1 hv2 hlinks hwch hb1 hb2
  go_loopw [9, 10] (fun o i wr => PFiltRel p ll w2 o i wr) (fun _ i _ => ll.length - (intOf i).toNat)
  case atStart => exact ⟨0, Nat.zero_le _, rfl, ⟨World.ownsRow_nil .., by simp⟩, Below.refl _ _⟩
  case round =>
    obtain ⟨k, hk, rfl, hO, hB⟩ := hrel
    have hrow := hO.1
    have hB3 := hB2.trans (hB.mono hsz0)
    have hc0' := (hB3.cell (p := ⟨R, 0, none⟩) hR).trans hc0
    have hsz1 := hB.size
    by_cases hlt : k < ll.length
    · have hltz : (k : Int) < (ll.length : Int) := by omega
      obtain ⟨g, rfl, e0, e1⟩ := HL.out k hlt
      have hgl := cell_lt e0
      have e0 := (hB3.cell (p := ⟨g, k * 2, none⟩) hgl).trans e0
      have e1 := (hB3.cell (p := ⟨g, k * 2 + 1, none⟩) hgl).trans e1
      have hfl : ((ll.take k).filter p).length ≤ k := Nat.le_trans (List.length_filter_le _ _) (List.length_take_le _ _)
      have hpk : p ll[k] = (ll[k].1 != a && ll[k].2 != a) := by rw [← HP0.out]
      cases q1 : (ll[k].1 != a)
      · have HP := Lib.hid (hpk.trans (by rw [q1, Bool.false_and]))
        clear hpk
        go_wp2
        go_roundw
        case rel => exact ⟨k + 1, hlt, by go_num, by rw [take_filter_no hlt HP.out]; exact hO, hB⟩
        case measure => simp [intOf]; omega
      · cases q2 : (ll[k].2 != a)
        · have HP := Lib.hid (hpk.trans (by rw [q1, q2, Bool.true_and]))
          clear hpk
          go_wp2
          go_roundw
          case rel => exact ⟨k + 1, hlt, by go_num, by rw [take_filter_no hlt HP.out]; exact hO, hB⟩
          case measure => simp [intOf]; omega
        · have HP := Lib.hid (hpk.trans (by rw [q1, q2, Bool.true_and]))
          clear hpk
          go_wp2_with (at_builtin; refine wpList_append_own _ rfl _ _ 69 rfl w2.heap.size 60 i1 _ 2 16 Try.underlying69 hj hy0 hy1 hy2 rfl (by decide) _ _ _ rfl (ownsRow_alloc hrow _) ⟨wr.heap.size, 0, none⟩ 1 1 (pairCells ll[k]) rfl rfl ?c1 ?c2 ?c3 ?c4 ?c5 ?_; rotate_left 5; intro v' w3 hown3 hg3 hn3)
          case c1 => exact cells_new wr (pairCells ll[k]) _
          case c2 => exact pair_plain _
          case c3 => unfold maxLen; omega
          case c4 => omega
          case c5 => simp; omega
          go_roundw
          case rel => exact ⟨k + 1, hlt, by go_num, by rw [take_filter_yes hlt HP.out]; exact NewPairs.grow hown3 hn3, (hB.alloc hsz1 _).grown hg3 (by simp; omega) hO.home⟩
          case measure => simp [intOf]; omega
    · have hkM : k = ll.length := by omega
      subst hkM
      rw [List.take_length] at hO
      have hv1'' := hv1'.block hB
      have hv2'' := hv2'.block hB
      have hO1 : NewPairs w.heap.size wr u9 (ll.filter p) := ⟨ownsRow_base_a hO.1 hsz0, hO.2⟩
      obtain ⟨p9, n9, c9, hu9⟩ : ∃ p n c, u9 = .slice p n c := by obtain ⟨p, c, hu, _⟩ := hO.at; exact ⟨p, _, c, hu⟩
      subst hu9
      clear hO hrow hB hB2 hv1' hv2'
      have hszw := hB3.size
      go_upto_region 12 with fail
      rename World => W3
      go_loopw [11, 12] (fun o i wx => FiltRel q M W3 o i wx) (fun _ i _ => M.length - (intOf i).toNat)
      case atStart => exact ⟨0, Nat.zero_le _, rfl, ⟨World.ownsRow_nil .., by simp⟩, Below.refl _ _⟩
      case round =>
        obtain ⟨k, hk, rfl, hO, hB⟩ := hrel
        have hrow := hO.1
        have hB4 := hB3.trans (hB.mono hszw)
        have hc1' := (hB4.cell (p := ⟨R, 1, none⟩) hR).trans hc1
        have hsz1 := hB.size
        by_cases hlt : k < M.length
        · have hltz : (k : Int) < (M.length : Int) := by omega
          obtain ⟨g, rfl, e0, e1, e2⟩ := HC.out k hlt
          have hgl := cell_lt e0
          have e0 := (hB4.cell (p := ⟨g, k * 3, none⟩) hgl).trans e0
          have e1 := (hB4.cell (p := ⟨g, k * 3 + 1, none⟩) hgl).trans e1
          have e2 := (hB4.cell (p := ⟨g, k * 3 + 2, none⟩) hgl).trans e2
          have hfl : ((M.take k).filter q).length ≤ k := Nat.le_trans (List.length_filter_le _ _) (List.length_take_le _ _)
          have hpk : q M[k] = (M[k].2.1 != a && M[k].2.2 != a) := by rw [← HQ0.out]
          cases q1 : (M[k].2.1 != a)
          · have HP := Lib.hid (hpk.trans (by rw [q1, Bool.false_and]))
            clear hpk
            go_wp2
            go_roundw
            case rel => exact ⟨k + 1, hlt, by go_num, by rw [take_filter_no hlt HP.out]; exact hO, hB⟩
            case measure => simp [intOf]; omega
          · cases q2 : (M[k].2.2 != a)
            · have HP := Lib.hid (hpk.trans (by rw [q1, q2, Bool.true_and]))
              clear hpk
              go_wp2
              go_roundw
              case rel => exact ⟨k + 1, hlt, by go_num, by rw [take_filter_no hlt HP.out]; exact hO, hB⟩
              case measure => simp [intOf]; omega
            · have HP := Lib.hid (hpk.trans (by rw [q1, q2, Bool.true_and]))
              clear hpk
              go_wp2_with (at_builtin; refine wpList_append_own _ rfl _ _ 29 rfl W3.heap.size 53 i0 _ 3 24 Try.underlying29 hi hz0 hz1 hz2 rfl (by decide) _ _ _ rfl (ownsRow_alloc hrow _) ⟨wr.heap.size, 0, none⟩ 1 1 (seenCells M[k]) rfl rfl ?d1 ?d2 ?d3 ?d4 ?d5 ?_; rotate_left 5; intro v' w3 hown3 hg3 hn3)
              case d1 => exact cells_new wr (seenCells M[k]) _
              case d2 => exact seen_plain _
              case d3 => unfold maxLen; omega
              case d4 => omega
              case d5 => simp; omega
              go_roundw
              case rel => exact ⟨k + 1, hlt, by go_num, by rw [take_filter_yes hlt HP.out]; exact NewSeen.grow hown3 hn3, (hB.alloc hsz1 _).grown hg3 (by simp; omega) hO.home⟩
              case measure => simp [intOf]; omega
        · have hkM : k = M.length := by omega
          subst hkM
          rw [List.take_length] at hO
          have hO2 : NewSeen w.heap.size wr u11 (M.filter q) := ⟨ownsRow_base_a hO.1 hszw, hO.2⟩
          have hO1' := hO1.block hB
          obtain ⟨hE, hET⟩ := hEnd wr hB4 _ _ _ _ hO1' hO2
          have hc0'' := (hB4.cell (p := ⟨R, 0, none⟩) hR).trans hc0
          have hf0 := hfr wr hB4 0
          have hf1 := hfr wr hB4 1
          have g1 := ((hv1''.block hB).turn hET) fun j hj e => by subst e; omega
          have g2 := ((hv2''.block hB).turn hET) fun j hj e => by subst e; omega
          obtain ⟨pz, cz, rfl, _, _⟩ := hO.at
          go_wp2
          go_ret3
          exact ⟨_, _, rfl, g1, g2, hE⟩
end
end Go.Proofs.Ytjkdmdddgiomjaa
