/-
  The reference's Watchers, Last, pair, put, Links, Linked. Conditions: as said.
-/
import Derived.Test.YtjkdmdddgiomjaaRef
namespace Go.Proofs.Ytjkdmdddgiomjaa
open Go.RowKit Go.Maps

section
variable {w w' : World} {R : Nat} {ll : List (Int × Int)} {M : List (Int × Int × Int)} {last : Int} {vL vM : Value}
set_option maxHeartbeats 1000000 in
set_option maxRecDepth 100000 in
theorem rwatchers_any (h : RefW w R ll M last vL vM) (hM : M.length ≤ BN) (a : Int) :
    Calls Try.prog 27 #[.pointer (some ⟨R, 0, none⟩), .int .i64 a] w fun e w' => ∃ v, e = .returned v ∧ NewSeen w.heap.size w' v (M.filter fun m => m.2.2 == a) ∧ Below w.heap.size w w' := by
  have hc1 := h.cell1
  have hR := h.lt
  obtain ⟨pm, cm, rfl, hcm, hcells⟩ := h.rm.at
  obtain ⟨i0, hi, hz0, hz1, hz2⟩ := info_parts infoSeen
  have hM' : M.length ≤ 1099511627776 := hM
  have HC := Lib.hid hcells
  clear h hcells hM
  obtain ⟨p, hp⟩ : ∃ p : Int × Int × Int → Bool, (fun m => m.2.2 == a) = p := ⟨_, rfl⟩
  have HP0 := Lib.hid hp
  rw [hp]
  clear hp
  go_enter Try.func27, Try.ntmps27
  go_wp2
  go_loopw [5, 6] (fun o i wr => FiltRel p M w o i wr) (fun _ i _ => M.length - (intOf i).toNat)
  case atStart => exact ⟨0, Nat.zero_le _, rfl, ⟨World.ownsRow_nil .., by simp⟩, Below.refl _ _⟩
  case round =>
    obtain ⟨k, hk, rfl, ⟨hrow, hnil⟩, hB⟩ := hrel
    have hc1' := (hB.cell (p := ⟨R, 1, none⟩) hR).trans hc1
    have hsz1 := hB.size
    by_cases hlt : k < M.length
    · have hltz : (k : Int) < (M.length : Int) := by omega
      obtain ⟨g, rfl, e0, e1, e2⟩ := HC.out k hlt
      have hgl := cell_lt e0
      have e0 := (hB.cell (p := ⟨g, k * 3, none⟩) hgl).trans e0
      have e1 := (hB.cell (p := ⟨g, k * 3 + 1, none⟩) hgl).trans e1
      have e2 := (hB.cell (p := ⟨g, k * 3 + 2, none⟩) hgl).trans e2
      have hfl : ((M.take k).filter p).length ≤ k := Nat.le_trans (List.length_filter_le _ _) (List.length_take_le _ _)
      have hpk : p M[k] = (M[k].2.2 == a) := by rw [← HP0.out]
      cases hq : (M[k].2.2 == a)
      · have HP := Lib.hid (hpk.trans hq)
        clear hpk
        go_wp2
        go_roundw
        case rel => exact ⟨k + 1, hlt, by go_num, by rw [take_filter_no hlt HP.out]; exact ⟨hrow, hnil⟩, hB⟩
        case measure => simp [intOf]; omega
      · have HP := Lib.hid (hpk.trans hq)
        clear hpk
        go_wp2_with (at_builtin; refine wpList_append_own _ rfl _ _ 29 rfl w.heap.size 53 i0 _ 3 24 Try.underlying29 hi hz0 hz1 hz2 rfl (by decide) _ _ _ rfl (ownsRow_alloc hrow _) ⟨wr.heap.size, 0, none⟩ 1 1 (seenCells M[k]) rfl rfl ?c1 ?c2 ?c3 ?c4 ?c5 ?_; rotate_left 5; intro v' w3 hown3 hg3 hn3)
        case c1 => exact cells_new wr (seenCells M[k]) _
        case c2 =>
          intro u hu
          simp only [seenCells, List.mem_cons, List.not_mem_nil, or_false] at hu
          rcases hu with rfl | rfl | rfl <;> rfl
        case c3 => unfold maxLen; omega
        case c4 => omega
        case c5 => simp; omega
        go_roundw
        case rel =>
          refine ⟨k + 1, hlt, by go_num, ?_, ?_⟩
          · rw [take_filter_yes hlt HP.out]
            refine ⟨by simpa using hown3, ?_⟩
            rw [hn3]; simp
          · refine (hB.alloc hsz1 _).grown hg3 (by simp; omega) (fun j hj => ?_)
            rcases hrow.2 with ⟨rfl, _⟩ | ⟨g', _, _, rfl, hg', _⟩
            · cases hj
            · cases hj; exact hg'
        case measure => simp [intOf]; omega
    · go_wp2
      go_ret
      have hkM : k = M.length := by omega
      subst hkM
      rw [List.take_length] at hrow hnil
      exact ⟨_, rfl, ⟨hrow, hnil⟩, hB⟩

theorem rlast_any (h : RefW w R ll M last vL vM) : Calls Try.prog 29 #[.pointer (some ⟨R, 0, none⟩)] w fun e w' => e = .returned (.int .i64 last) ∧ w = w' := by
  have h3 := h.cell2
  clear h
  go_enter Try.func29, Try.ntmps29
  go_wp2
  go_ret
  exact ⟨rfl, rfl⟩
end

theorem rpair_any (w : World) (a b : Int) : Calls Try.prog 41 #[.int .i64 a, .int .i64 b] w fun e w' => e = .returned (.agg #[.int .i64 (min a b), .int .i64 (max a b)]) ∧ Below w.heap.size w w' := by
  go_enter Try.func41, Try.ntmps41
  go_wp2
  refine bodyPost_ret (v := .agg #[.int .i64 (min a b), .int .i64 (max a b)]) (by simp only [results, Try.results41]; go_simp) rfl ?_
  exact ⟨rfl, (Below.refl _ _).alloc (Nat.le_refl _) _⟩

/-- What put makes. -/
def putS (n : Int) : List Int → List Int
  | [] => [n]
  | x :: r => if n < x then n :: x :: r else x :: putS n r

def PutRel (n : Int) (l : List Int) (w : World) (out dn i : Value) (wr : World) : Prop :=
  ∃ (k : Nat) (o : List Int) (d : Bool), k ≤ l.length ∧ i = .int .i64 k ∧ dn = .bool d ∧ NewInts w wr out o ∧ o.length ≤ k + d.toNat ∧ o ++ (if d then l.drop k else putS n (l.drop k)) = putS n l ∧ Below w.heap.size w wr

theorem infoInt : (Try.prog.info? 3).map (fun i => (i.zero, i.size, i.bytes)) = some (some (.int .i64 0), 1, 8) := by kernel_rfl
theorem NewInts.grow {w w3 : World} {v v' : Value} {o : List Int} {x : Int} (h : w3.ownsRow w.heap.size 3 1 v' (o.length + 1) (o.map (Value.int .i64) ++ [.int .i64 x])) (hn : v' = .slice none 0 0 ↔ v = .slice none 0 0 ∧ 1 = 0) : NewInts w w3 v' (o ++ [x]) := by
  refine ⟨by simpa using h, ?_⟩
  rw [hn]; simp
theorem NewInts.home {w wr : World} {v : Value} {o : List Int} (h : NewInts w wr v o) : ∀ j, v.ownBlock = some j → w.heap.size ≤ j := fun j hj => by
  rcases h.1.2 with ⟨rfl, _⟩ | ⟨g', _, _, rfl, hg', _⟩
  · cases hj
  · cases hj; exact hg'
theorem one_int (W : World) (x : Int) : ∀ (j : Nat) (u : Value), [Value.int .i64 x][j]? = some u → (W.alloc (.cells #[.int .i64 x] 3)).cell? (Addr.add ⟨W.heap.size, 0, none⟩ j) = some u := cells_new W [.int .i64 x] 3

set_option maxHeartbeats 1000000 in
set_option maxRecDepth 100000 in
theorem put_any {w : World} {v : Value} {l : List Int} (h : IntsAt w v l) (hl : l.length < BN) (n : Int) :
    Calls Try.prog 42 #[v, .int .i64 n] w fun e w' => ∃ v', e = .returned v' ∧ NewInts w w' v' (putS n l) ∧ Below w.heap.size w w' := by
  obtain ⟨pm, cm, rfl, hcm, hcells⟩ := h
  obtain ⟨i0, hi, hz0, hz1, hz2⟩ := info_parts infoInt
  have hl' : l.length < 1099511627776 := hl
  have HC := Lib.hid hcells
  clear hcells hl
  go_enter Try.func42, Try.ntmps42
  go_wp2
  go_loopw [5, 6, 7] (fun o d i wr => PutRel n l w o d i wr) (fun _ _ i _ => l.length - (intOf i).toNat)
  case atStart => exact ⟨0, [], false, Nat.zero_le _, rfl, rfl, ⟨World.ownsRow_nil .., by simp⟩, by simp, by simp, Below.refl _ _⟩
  case round =>
    obtain ⟨k, o, d, hk, rfl, rfl, hO, hol, hsum, hB⟩ := hrel
    have hrow := hO.1
    have hsz1 := hB.size
    by_cases hlt : k < l.length
    · have hltz : (k : Int) < (l.length : Int) := by omega
      obtain ⟨g, rfl, e0⟩ := HC.out k hlt
      have e00 := e0
      have e0 := (hB.cell (p := ⟨g, k, none⟩) (cell_lt e0)).trans e0
      have hdrop := List.drop_eq_getElem_cons hlt
      cases d
      · simp only [Bool.toNat_false] at hol
        by_cases hn : n < l[k]
        · have hput : putS n (l.drop k) = n :: l[k] :: l.drop (k + 1) := by rw [hdrop, putS, if_pos hn]
          rw [if_neg (by simp), hput] at hsum
          have HSUM := Lib.hid hsum
          clear hput hdrop hsum
          go_wp2_with (first
            | (at_builtin; refine wpList_append_own _ rfl _ _ 28 rfl w.heap.size 3 i0 _ 1 8 Try.underlying28 hi hz0 hz1 hz2 rfl (by decide) _ _ _ rfl (ownsRow_alloc hrow _) ⟨wr.heap.size, 0, none⟩ 1 1 [.int .i64 n] rfl rfl ?c1 ?c2 ?c3 ?c4 ?c5 ?_; rotate_left 5; intro v1 w1 hown1 hg1 hn1; have hO1 : NewInts w w1 v1 (o ++ [n]) := NewInts.grow hown1 hn1; have hB1 : Below w.heap.size w w1 := (hB.alloc hsz1 _).grown hg1 (by simp; omega) hO.home; have hsz2 := hB1.size; have e0 := (hB1.cell (p := ⟨g, k, none⟩) (cell_lt e00)).trans e00; have hrow1 := hO1.1)
            | (at_builtin; refine wpList_append_own _ rfl _ _ 28 rfl w.heap.size 3 i0 _ 1 8 Try.underlying28 hi hz0 hz1 hz2 rfl (by decide) _ _ _ rfl (ownsRow_alloc hrow1 _) ⟨w1.heap.size, 0, none⟩ 1 1 [.int .i64 l[k]] rfl rfl ?d1 ?d2 ?d3 ?d4 ?d5 ?_; rotate_left 5; intro v2 w2 hown2 hg2 hn2; have hO2 : NewInts w w2 v2 (o ++ [n] ++ [l[k]]) := NewInts.grow hown2 hn2; have hB2 : Below w.heap.size w w2 := (hB1.alloc hsz2 _).grown hg2 (by simp; omega) hO1.home))
          case c1 => exact one_int wr _
          case c2 => intro u hu; simp only [List.mem_cons, List.not_mem_nil, or_false] at hu; subst hu; rfl
          case c3 => unfold maxLen; omega
          case c4 => omega
          case c5 => simp; omega
          case d1 => exact one_int w1 _
          case d2 => intro u hu; simp only [List.mem_cons, List.not_mem_nil, or_false] at hu; subst hu; rfl
          case d3 => unfold maxLen; simp only [List.length_append, List.length_cons, List.length_nil]; omega
          case d4 => simp only [List.length_append, List.length_cons, List.length_nil]; omega
          case d5 => simp; omega
          go_roundw
          case rel => exact ⟨k + 1, _, true, hlt, by go_num, rfl, hO2, by simp only [List.length_append, List.length_cons, List.length_nil, Bool.toNat_true]; omega, by rw [if_pos rfl, ← HSUM.out]; simp, hB2⟩
          case measure => simp [intOf]; omega
        · have hput : putS n (l.drop k) = l[k] :: putS n (l.drop (k + 1)) := by rw [hdrop, putS, if_neg hn]
          have hn' : l[k] ≤ n := by omega
          clear hn
          rw [if_neg (by simp), hput] at hsum
          have HSUM := Lib.hid hsum
          clear hput hdrop hsum
          go_wp2_with (at_builtin; refine wpList_append_own _ rfl _ _ 28 rfl w.heap.size 3 i0 _ 1 8 Try.underlying28 hi hz0 hz1 hz2 rfl (by decide) _ _ _ rfl (ownsRow_alloc hrow _) ⟨wr.heap.size, 0, none⟩ 1 1 [.int .i64 l[k]] rfl rfl ?b1 ?b2 ?b3 ?b4 ?b5 ?_; rotate_left 5; intro v1 w1 hown1 hg1 hn1; have hO1 : NewInts w w1 v1 (o ++ [l[k]]) := NewInts.grow hown1 hn1; have hB1 : Below w.heap.size w w1 := (hB.alloc hsz1 _).grown hg1 (by simp; omega) hO.home)
          case b1 => exact one_int wr _
          case b2 => intro u hu; simp only [List.mem_cons, List.not_mem_nil, or_false] at hu; subst hu; rfl
          case b3 => unfold maxLen; omega
          case b4 => omega
          case b5 => simp; omega
          go_roundw
          case rel => exact ⟨k + 1, _, false, hlt, by go_num, rfl, hO1, by simp only [List.length_append, List.length_cons, List.length_nil, Bool.toNat_false]; omega, by rw [if_neg (by simp), ← HSUM.out]; simp, hB1⟩
          case measure => simp [intOf]; omega
      · simp only [Bool.toNat_true] at hol
        rw [if_pos rfl, hdrop] at hsum
        have HSUM := Lib.hid hsum
        clear hdrop hsum
        go_wp2_with (at_builtin; refine wpList_append_own _ rfl _ _ 28 rfl w.heap.size 3 i0 _ 1 8 Try.underlying28 hi hz0 hz1 hz2 rfl (by decide) _ _ _ rfl (ownsRow_alloc hrow _) ⟨wr.heap.size, 0, none⟩ 1 1 [.int .i64 l[k]] rfl rfl ?m1 ?m2 ?m3 ?m4 ?m5 ?_; rotate_left 5; intro v1 w1 hown1 hg1 hn1; have hO1 : NewInts w w1 v1 (o ++ [l[k]]) := NewInts.grow hown1 hn1; have hB1 : Below w.heap.size w w1 := (hB.alloc hsz1 _).grown hg1 (by simp; omega) hO.home)
        case m1 => exact one_int wr _
        case m2 => intro u hu; simp only [List.mem_cons, List.not_mem_nil, or_false] at hu; subst hu; rfl
        case m3 => unfold maxLen; omega
        case m4 => omega
        case m5 => simp; omega
        go_roundw
        case rel => exact ⟨k + 1, _, true, hlt, by go_num, rfl, hO1, by simp only [List.length_append, List.length_cons, List.length_nil, Bool.toNat_true]; omega, by rw [if_pos rfl, ← HSUM.out]; simp, hB1⟩
        case measure => simp [intOf]; omega
    · have hkl : k = l.length := by omega
      subst hkl
      rw [List.drop_length] at hsum
      cases d <;> simp only [Bool.toNat_false, Bool.toNat_true] at hol
      · rw [if_neg (by simp)] at hsum
        have HSUM := Lib.hid hsum
        clear hsum
        go_wp2_with (at_builtin; refine wpList_append_own _ rfl _ _ 28 rfl w.heap.size 3 i0 _ 1 8 Try.underlying28 hi hz0 hz1 hz2 rfl (by decide) _ _ _ rfl (ownsRow_alloc hrow _) ⟨wr.heap.size, 0, none⟩ 1 1 [.int .i64 n] rfl rfl ?z1 ?z2 ?z3 ?z4 ?z5 ?_; rotate_left 5; intro v1 w1 hown1 hg1 hn1; have hO1 : NewInts w w1 v1 (o ++ [n]) := NewInts.grow hown1 hn1; have hB1 : Below w.heap.size w w1 := (hB.alloc hsz1 _).grown hg1 (by simp; omega) hO.home)
        case z1 => exact one_int wr _
        case z2 => intro u hu; simp only [List.mem_cons, List.not_mem_nil, or_false] at hu; subst hu; rfl
        case z3 => unfold maxLen; omega
        case z4 => omega
        case z5 => simp; omega
        go_ret
        exact ⟨_, rfl, by rw [← HSUM.out]; exact hO1, hB1⟩
      · rw [if_pos rfl, List.append_nil] at hsum
        go_wp2
        go_ret
        exact ⟨_, rfl, by rw [← hsum]; exact hO, hB⟩
end Go.Proofs.Ytjkdmdddgiomjaa
