/-
  The reference's Leave, Cut, Gone. Conditions: as said.
-/
import Derived.Test.YtjkdmdddgiomjaaRef5
namespace Go.Proofs.Ytjkdmdddgiomjaa
open Go.RowKit Go.Maps

theorem NewSeen.grow {base : Nat} {w3 : World} {v v' : Value} {o : List (Int × Int × Int)} {m : Int × Int × Int} (h : w3.ownsRow base 53 3 v' (o.length + 1) (o.flatMap seenCells ++ seenCells m)) (hn : v' = .slice none 0 0 ↔ v = .slice none 0 0 ∧ 1 = 0) : NewSeen base w3 v' (o ++ [m]) := by
  refine ⟨by simpa using h, ?_⟩
  rw [hn]; simp
theorem NewSeen.home {base : Nat} {wr : World} {v : Value} {o : List (Int × Int × Int)} (h : NewSeen base wr v o) : ∀ j, v.ownBlock = some j → base ≤ j := fun j hj => (ownsRow_lt h.1 j hj).1
theorem NewPairs.grow {base : Nat} {w3 : World} {v v' : Value} {o : List (Int × Int)} {m : Int × Int} (h : w3.ownsRow base 60 2 v' (o.length + 1) (o.flatMap pairCells ++ pairCells m)) (hn : v' = .slice none 0 0 ↔ v = .slice none 0 0 ∧ 1 = 0) : NewPairs base w3 v' (o ++ [m]) := by
  refine ⟨by simpa using h, ?_⟩
  rw [hn]; simp
theorem NewPairs.home {base : Nat} {wr : World} {v : Value} {o : List (Int × Int)} (h : NewPairs base wr v o) : ∀ j, v.ownBlock = some j → base ≤ j := fun j hj => (ownsRow_lt h.1 j hj).1
theorem NewSeen.block2 {base : Nat} {w1 w2 : World} {v : Value} {l : List (Int × Int × Int)} (h : NewSeen base w1 v l) (ht : Below w1.heap.size w1 w2) : NewSeen base w2 v l := h.block ht
theorem NewPairs.block {base : Nat} {w1 w2 : World} {v : Value} {l : List (Int × Int)} (h : NewPairs base w1 v l) (ht : Below w1.heap.size w1 w2) : NewPairs base w2 v l := ⟨ownsRow_below h.1 ht, h.2⟩
theorem seen_plain (m : Int × Int × Int) : ∀ u ∈ seenCells m, u.oneCell' = true := by
  intro u hu
  simp only [seenCells, List.mem_cons, List.not_mem_nil, or_false] at hu
  rcases hu with rfl | rfl | rfl <;> rfl
theorem pair_plain (m : Int × Int) : ∀ u ∈ pairCells m, u.oneCell' = true := by
  intro u hu
  simp only [pairCells, List.mem_cons, List.not_mem_nil, or_false] at hu
  rcases hu with rfl | rfl <;> rfl

section
variable {w w' : World} {R : Nat} {ll : List (Int × Int)} {M : List (Int × Int × Int)} {last : Int} {vL vM : Value}
def PFiltRel (p : Int × Int → Bool) (ll : List (Int × Int)) (w : World) (out : Value) (i : Value) (wr : World) : Prop :=
  ∃ k : Nat, k ≤ ll.length ∧ i = .int .i64 k ∧ NewPairs w.heap.size wr out ((ll.take k).filter p) ∧ Below w.heap.size w wr

set_option maxHeartbeats 1000000 in
set_option maxRecDepth 100000 in
theorem rleave_any (h : RefW w R ll M last vL vM) (hM : M.length ≤ 1000) (a : Int) :
    Calls Try.prog 20 #[.pointer (some ⟨R, 0, none⟩), .int .i64 a] w fun e w' => e = .returned (.tuple #[.bool (decide ((M.filter fun m => m.1 != a).length < M.length)), .int .i64 0]) ∧ RLeft w R vL vM ll (M.filter fun m => m.1 != a) last w' := by
  have hc1 := h.cell1
  have hR := h.lt
  have hEnd := fun (wr : World) hb (out : Value) (M' : List (Int × Int × Int)) hout => RefW.setM h (wr := wr) hb (out := out) (M' := M') hout
  have hfr := fun (wr : World) (hb : Below w.heap.size w wr) => (h.below hb).frozen 1
  obtain ⟨pm, cm, rfl, hcm, hcells⟩ := h.rm.at
  obtain ⟨i0, hi, hz0, hz1, hz2⟩ := info_parts infoSeen
  have HC := Lib.hid hcells
  clear h hcells
  obtain ⟨p, hp⟩ : ∃ p : Int × Int × Int → Bool, (fun m => m.1 != a) = p := ⟨_, rfl⟩
  have HP0 := Lib.hid hp
  rw [hp]
  clear hp
  go_enter Try.func20, Try.ntmps20
  go_wp2
  go_loopw [6, 7] (fun o i wr => FiltRel p M w o i wr) (fun _ i _ => M.length - (intOf i).toNat)
  case atStart => exact ⟨0, Nat.zero_le _, rfl, ⟨World.ownsRow_nil .., by simp⟩, Below.refl _ _⟩
  case round =>
    obtain ⟨k, hk, rfl, hO, hB⟩ := hrel
    have hrow := hO.1
    have hc1' := (hB.cell (p := ⟨R, 1, none⟩) hR).trans hc1
    have hsz1 := hB.size
    by_cases hlt : k < M.length
    · have hltz : (k : Int) < (M.length : Int) := by omega
      obtain ⟨g, rfl, e0, e1, e2⟩ := HC.out k hlt
      have hgl := cell_lt e0
      have e0 := (hB.cell (p := ⟨g, k * 3, none⟩) hgl).trans e0
      have e1 := (hB.cell (p := ⟨g, k * 3 + 1, none⟩) hgl).trans e1
      have e2 := (hB.cell (p := ⟨g, k * 3 + 2, none⟩) hgl).trans e2
      have hfl : ((M.take k).filter p).length ≤ k := Nat.le_trans (List.length_filter_le _ _) (List.length_take_le _ _)
      have hpk : p M[k] = (M[k].1 != a) := by rw [← HP0.out]
      cases hq : (M[k].1 != a)
      · have HP := Lib.hid (hpk.trans hq)
        clear hpk
        go_wp2
        go_roundw
        case rel => exact ⟨k + 1, hlt, by go_num, by rw [take_filter_no hlt HP.out]; exact hO, hB⟩
        case measure => simp [intOf]; omega
      · have HP := Lib.hid (hpk.trans hq)
        clear hpk
        go_wp2_with (at_builtin; refine wpList_append_own _ rfl _ _ 29 rfl w.heap.size 53 i0 _ 3 24 Try.underlying29 hi hz0 hz1 hz2 rfl (by decide) _ _ _ rfl (ownsRow_alloc hrow _) ⟨wr.heap.size, 0, none⟩ 1 1 (seenCells M[k]) rfl rfl ?c1 ?c2 ?c3 ?c4 ?c5 ?_; rotate_left 5; intro v' w3 hown3 hg3 hn3)
        case c1 => exact cells_new wr (seenCells M[k]) _
        case c2 => exact seen_plain _
        case c3 => unfold maxLen; omega
        case c4 => omega
        case c5 => simp; omega
        go_roundw
        case rel => exact ⟨k + 1, hlt, by go_num, by rw [take_filter_yes hlt HP.out]; exact NewSeen.grow hown3 hn3, (hB.alloc hsz1 _).grown hg3 (by simp; omega) hO.home⟩
        case measure => simp [intOf]; omega
    · have hkM : k = M.length := by omega
      subst hkM
      rw [List.take_length] at hO
      have hE := hEnd wr hB u6 _ hO
      have hf1 := hfr wr hB
      obtain ⟨p6, c6, rfl, _, _⟩ := hO.at
      go_wp2
      go_ret2
      exact ⟨by simp, hE⟩

set_option maxHeartbeats 1000000 in
set_option maxRecDepth 100000 in
theorem rcut_any (h : RefW w R ll M last vL vM) (hL : ll.length ≤ 1000) (a b : Int) :
    Calls Try.prog 18 #[.pointer (some ⟨R, 0, none⟩), .int .i64 a, .int .i64 b] w fun e w' => e = .returned (.int .i64 (if mayB a b then 0 else 2)) ∧ RLeft w R vL vM (if mayB a b then ll.filter (fun m => !isPair a b m) else ll) M last w' := by
  cases hm : mayB a b
  · have hE := h.same (Below.refl _ w)
    have hno : a < 1 ∨ b < 1 ∨ a = b := by
      have : ¬ (1 ≤ a ∧ 1 ≤ b ∧ a ≠ b) := fun hh => by rw [(mayB_iff a b).2 hh] at hm; cases hm
      omega
    clear h hm
    by_cases ha : a < 1
    · go_enter Try.func18, Try.ntmps18
      go_wp2
      go_ret
      exact ⟨rfl, hE⟩
    · by_cases hb : b < 1
      · go_enter Try.func18, Try.ntmps18
        go_wp2
        go_ret
        exact ⟨rfl, hE⟩
      · obtain rfl : a = b := by omega
        go_enter Try.func18, Try.ntmps18
        go_wp2
        go_ret
        exact ⟨rfl, hE⟩
  obtain ⟨ha1, hb1, hab⟩ := (mayB_iff a b).1 hm
  have hab' : (a == b) = false := by simpa using hab
  clear hm hab
  have hc1 := h.cell0
  have hR := h.lt
  have hEnd := fun (wr : World) hb (out : Value) (l' : List (Int × Int)) hout => RefW.setL h (wr := wr) hb (out := out) (ll' := l') hout
  have hfr := fun (wr : World) (hb : Below w.heap.size w wr) => (h.below hb).frozen 0
  obtain ⟨pm, cm, rfl, hcm, hcells⟩ := h.rl.at
  obtain ⟨i1, hj, hy0, hy1, hy2⟩ := info_parts infoPair
  have HC := Lib.hid hcells
  clear h hcells
  obtain ⟨p, hp⟩ : ∃ p : Int × Int → Bool, (fun m => !isPair a b m) = p := ⟨_, rfl⟩
  have HP0 := Lib.hid hp
  rw [hp]
  clear hp
  go_enter Try.func18, Try.ntmps18
  go_wp2
  go_loopw [7, 8] (fun o i wr => PFiltRel p ll w o i wr) (fun _ i _ => ll.length - (intOf i).toNat)
  case atStart => exact ⟨0, Nat.zero_le _, rfl, ⟨World.ownsRow_nil .., by simp⟩, Below.refl _ _⟩
  case round =>
    obtain ⟨k, hk, rfl, hO, hB⟩ := hrel
    have hc1' := (hB.cell (p := ⟨R, 0, none⟩) hR).trans hc1
    have hsz1 := hB.size
    by_cases hlt : k < ll.length
    · have hltz : (k : Int) < (ll.length : Int) := by omega
      obtain ⟨g, rfl, e0, e1⟩ := HC.out k hlt
      have hgl := cell_lt e0
      have e0' := (hB.cell (p := ⟨g, k * 2, none⟩) hgl).trans e0
      have e1' := (hB.cell (p := ⟨g, k * 2 + 1, none⟩) hgl).trans e1
      have hmove : ∀ W : World, Below wr.heap.size wr W → W.cell? ⟨R, 0, none⟩ = some (.slice (some ⟨g, 0, none⟩) ll.length cm) ∧ W.cell? ⟨g, k * 2, none⟩ = some (.int .i64 ll[k].1) ∧ W.cell? ⟨g, k * 2 + 1, none⟩ = some (.int .i64 ll[k].2) := fun W hb =>
        ⟨(hb.cell (p := ⟨R, 0, none⟩) (cell_lt hc1')).trans hc1', (hb.cell (p := ⟨g, k * 2, none⟩) (cell_lt e0')).trans e0', (hb.cell (p := ⟨g, k * 2 + 1, none⟩) (cell_lt e0')).trans e1'⟩
      have hfl : ((ll.take k).filter p).length ≤ k := Nat.le_trans (List.length_filter_le _ _) (List.length_take_le _ _)
      have hpk : p ll[k] = !(ll[k].1 == min a b && ll[k].2 == max a b) := by rw [← HP0.out]; rfl
      have hS0 := hmove wr (Below.refl _ _)
      have hpe := run_pair_eq
      cases hq : (ll[k].1 == min a b && ll[k].2 == max a b)
      · have HP := Lib.hid (hpk.trans (congrArg not hq))
        clear hpk
        go_upto_region 7 with fail
        go_region_held3 (fun W => W.cell? ⟨R, 0, none⟩ = some (.slice (some ⟨g, 0, none⟩) ll.length cm) ∧ W.cell? ⟨g, k * 2, none⟩ = some (.int .i64 ll[k].1) ∧ W.cell? ⟨g, k * 2 + 1, none⟩ = some (.int .i64 ll[k].2)) (first | exact hS0 | exact hS1) (first
          | (go_at_call 41; refine (rpair_any _ _ _).mono ?_; rintro e w1 ⟨rfl, hb1⟩; have hS1 := hmove w1 ⟨hb1.os, hb1.tape, hb1.output, hb1.size, hb1.block⟩))
        have hb1' : Below wr.heap.size wr w1 := ⟨hb1.os, hb1.tape, hb1.output, hb1.size, hb1.block⟩
        have hB1 : Below w.heap.size w w1 := hB.trans (hb1'.mono hsz1)
        have hO1 := hO.block hb1'
        have hrow := hO1.1
        have hsz2 := hB1.size
        obtain ⟨s0, s1, s2⟩ := hS1
        go_wp2_with (at_builtin; refine wpList_append_own _ rfl _ _ 69 rfl w.heap.size 60 i1 _ 2 16 Try.underlying69 hj hy0 hy1 hy2 rfl (by decide) _ _ _ rfl (ownsRow_alloc hrow _) ⟨w1.heap.size, 0, none⟩ 1 1 (pairCells ll[k]) rfl rfl ?c1 ?c2 ?c3 ?c4 ?c5 ?_; rotate_left 5; intro v' w3 hown3 hg3 hn3)
        case c1 => exact cells_new w1 (pairCells ll[k]) _
        case c2 => exact pair_plain _
        case c3 => unfold maxLen; omega
        case c4 => omega
        case c5 => simp; omega
        go_roundw
        case rel => exact ⟨k + 1, hlt, by go_num, by rw [take_filter_yes hlt HP.out]; exact NewPairs.grow hown3 hn3, (hB1.alloc hsz2 _).grown hg3 (by simp; omega) hO1.home⟩
        case measure => simp [intOf]; omega
      · have HP := Lib.hid (hpk.trans (congrArg not hq))
        clear hpk
        go_upto_region 7 with fail
        go_region_held3 (fun W => W.cell? ⟨R, 0, none⟩ = some (.slice (some ⟨g, 0, none⟩) ll.length cm) ∧ W.cell? ⟨g, k * 2, none⟩ = some (.int .i64 ll[k].1) ∧ W.cell? ⟨g, k * 2 + 1, none⟩ = some (.int .i64 ll[k].2)) (first | exact hS0 | exact hS1) (first
          | (go_at_call 41; refine (rpair_any _ _ _).mono ?_; rintro e w1 ⟨rfl, hb1⟩; have hS1 := hmove w1 ⟨hb1.os, hb1.tape, hb1.output, hb1.size, hb1.block⟩))
        have hb1' : Below wr.heap.size wr w1 := ⟨hb1.os, hb1.tape, hb1.output, hb1.size, hb1.block⟩
        have hB1 : Below w.heap.size w w1 := hB.trans (hb1'.mono hsz1)
        have hO1 := hO.block hb1'
        have hrow := hO1.1
        have hsz2 := hB1.size
        obtain ⟨s0, s1, s2⟩ := hS1
        go_wp2
        go_roundw
        case rel => exact ⟨k + 1, hlt, by go_num, by rw [take_filter_no hlt HP.out]; exact hO1, hB1⟩
        case measure => simp [intOf]; omega
    · have hkM : k = ll.length := by omega
      subst hkM
      rw [List.take_length] at hO
      have hE := hEnd wr hB u7 _ hO
      have hf1 := hfr wr hB
      obtain ⟨p6, c6, rfl, _, _⟩ := hO.at
      go_wp2
      go_ret
      exact ⟨rfl, hE⟩
end
end Go.Proofs.Ytjkdmdddgiomjaa
