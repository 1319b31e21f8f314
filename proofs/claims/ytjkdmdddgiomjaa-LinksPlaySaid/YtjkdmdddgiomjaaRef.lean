/-
  The reference's Web as it lies: two rows and a number. Conditions: as said.
-/
import Derived.Test.YtjkdmdddgiomjaaApart
namespace Go.Proofs.Ytjkdmdddgiomjaa
open Go.RowKit Go.Maps

theorem infoPair : (Try.prog.info? 60).map (fun i => (i.zero, i.size, i.bytes)) = some (some (.agg #[.int .i64 0, .int .i64 0]), 2, 16) := by kernel_rfl
def pairCells (m : Int × Int) : List Value := [.int .i64 m.1, .int .i64 m.2]
def NewPairs (base : Nat) (w' : World) (v : Value) (l : List (Int × Int)) : Prop := w'.ownsRow base 60 2 v l.length (l.flatMap pairCells) ∧ (v = .slice none 0 0 ↔ l = [])
def PairsAt (w : World) (v : Value) (l : List (Int × Int)) : Prop := ∃ p c, v = .slice p l.length c ∧ l.length ≤ c ∧ ∀ k (hk : k < l.length), ∃ g, p = some ⟨g, 0, none⟩ ∧ w.cell? ⟨g, k * 2, none⟩ = some (.int .i64 l[k].1) ∧ w.cell? ⟨g, k * 2 + 1, none⟩ = some (.int .i64 l[k].2)

theorem pairCells_at : ∀ (l : List (Int × Int)) (k : Nat) (hk : k < l.length), (l.flatMap pairCells)[k * 2]? = some (.int .i64 l[k].1) ∧ (l.flatMap pairCells)[k * 2 + 1]? = some (.int .i64 l[k].2)
  | m :: r, 0, _ => by simp [pairCells]
  | m :: r, k + 1, hk => by
    have := pairCells_at r k (by simpa using hk)
    rw [show (k + 1) * 2 = k * 2 + 2 from by omega]
    simp only [List.flatMap_cons, pairCells, List.cons_append, List.nil_append, List.getElem_cons_succ]
    exact this
theorem NewPairs.at {base : Nat} {w : World} {v : Value} {l : List (Int × Int)} (h : NewPairs base w v l) : PairsAt w v l := by
  obtain ⟨⟨_, h1⟩, h2⟩ := h
  rcases h1 with ⟨rfl, _⟩ | ⟨g, cap, cur, rfl, _, hh, hc, _, _, ht⟩
  · rw [h2.1 rfl]
    exact ⟨none, 0, rfl, Nat.le_refl _, fun k hk => absurd hk (by simp)⟩
  · refine ⟨_, cap, rfl, hc, fun k hk => ⟨g, rfl, ?_⟩⟩
    have hget : ∀ j, j < l.length * 2 → ∀ u, (l.flatMap pairCells)[j]? = some u → w.cell? ⟨g, j, none⟩ = some u := by
      intro j hj u hu
      rw [← ht, List.getElem?_take, if_pos hj] at hu
      simp [World.cell?, hh]
      simpa using hu
    exact ⟨hget _ (by omega) _ (pairCells_at l k hk).1, hget _ (by omega) _ (pairCells_at l k hk).2⟩

/-- The reference's Web. -/
structure RefW (w : World) (R : Nat) (ll : List (Int × Int)) (M : List (Int × Int × Int)) (last : Int) (vL vM : Value) : Prop where
  head : w.heap[R]? = some (.cells #[vL, vM, .int .i64 last] 71 (0, 0))
  rl : NewPairs 0 w vL ll
  rm : NewSeen 0 w vM M

section
variable {w w' : World} {R : Nat} {ll : List (Int × Int)} {M : List (Int × Int × Int)} {last : Int} {vL vM : Value}
theorem RefW.cell0 (h : RefW w R ll M last vL vM) : w.cell? ⟨R, 0, none⟩ = some vL := by simp [World.cell?, h.head]
theorem RefW.cell1 (h : RefW w R ll M last vL vM) : w.cell? ⟨R, 1, none⟩ = some vM := by simp [World.cell?, h.head]
theorem RefW.cell2 (h : RefW w R ll M last vL vM) : w.cell? ⟨R, 2, none⟩ = some (.int .i64 last) := by simp [World.cell?, h.head]
theorem RefW.lt (h : RefW w R ll M last vL vM) : R < w.heap.size := (Array.getElem?_eq_some_iff.1 h.head).1

/-- What a filter's loop over the monitors has made. -/
def FiltRel (p : Int × Int × Int → Bool) (M : List (Int × Int × Int)) (w : World) (out : Value) (i : Value) (wr : World) : Prop :=
  ∃ k : Nat, k ≤ M.length ∧ i = .int .i64 k ∧ NewSeen w.heap.size wr out ((M.take k).filter p) ∧ Below w.heap.size w wr

set_option maxHeartbeats 1000000 in
set_option maxRecDepth 100000 in
theorem rwatches_any (h : RefW w R ll M last vL vM) (hM : M.length ≤ BN) (a : Int) :
    Calls Try.prog 25 #[.pointer (some ⟨R, 0, none⟩), .int .i64 a] w fun e w' => ∃ v, e = .returned v ∧ NewSeen w.heap.size w' v (M.filter fun m => m.2.1 == a) ∧ Below w.heap.size w w' := by
  have hc1 := h.cell1
  have hR := h.lt
  obtain ⟨pm, cm, rfl, hcm, hcells⟩ := h.rm.at
  obtain ⟨i0, hi, hz0, hz1, hz2⟩ := info_parts infoSeen
  have hM' : M.length ≤ 1099511627776 := hM
  have HC := Lib.hid hcells
  clear h hcells hM
  obtain ⟨p, hp⟩ : ∃ p : Int × Int × Int → Bool, (fun m => m.2.1 == a) = p := ⟨_, rfl⟩
  have HP0 := Lib.hid hp
  rw [hp]
  clear hp
  go_enter Try.func25, Try.ntmps25
  go_wp2
  go_loopw [5, 6] (fun o i wr => FiltRel p M w o i wr) (fun _ i _ => M.length - (intOf i).toNat)
  case atStart => exact ⟨0, Nat.zero_le _, rfl, ⟨World.ownsRow_nil .., by simp⟩, Below.refl _ _⟩
  case round =>
    obtain ⟨k, hk, rfl, ⟨hrow, hnil⟩, hB⟩ := hrel
    have hc1' := (hB.cell (p := ⟨R, 1, none⟩) hR).trans hc1
    have hsz1 := hB.size
    by_cases hlt : k < M.length
    · have hltz : (k : Int) < (M.length : Int) := by omega
      obtain ⟨g, rfl, e0, e1, e2⟩ := HC.out k hlt
      have hgl := cell_lt e0
      have e0 := (hB.cell (p := ⟨g, k * 3, none⟩) hgl).trans e0
      have e1 := (hB.cell (p := ⟨g, k * 3 + 1, none⟩) hgl).trans e1
      have e2 := (hB.cell (p := ⟨g, k * 3 + 2, none⟩) hgl).trans e2
      have hfl : ((M.take k).filter p).length ≤ k := Nat.le_trans (List.length_filter_le _ _) (List.length_take_le _ _)
      have hpk : p M[k] = (M[k].2.1 == a) := by rw [← HP0.out]
      cases hq : (M[k].2.1 == a)
      · have HP := Lib.hid (hpk.trans hq)
        clear hpk
        go_wp2
        go_roundw
        case rel => exact ⟨k + 1, hlt, by go_num, by rw [take_filter_no hlt HP.out]; exact ⟨hrow, hnil⟩, hB⟩
        case measure => simp [intOf]; omega
      · have HP := Lib.hid (hpk.trans hq)
        clear hpk
        go_wp2_with (at_builtin; refine wpList_append_own _ rfl _ _ 29 rfl w.heap.size 53 i0 _ 3 24 Try.underlying29 hi hz0 hz1 hz2 rfl (by decide) _ _ _ rfl (ownsRow_alloc hrow _) ⟨wr.heap.size, 0, none⟩ 1 1 (seenCells M[k]) rfl rfl ?c1 ?c2 ?c3 ?c4 ?c5 ?_; rotate_left 5; intro v' w3 hown3 hg3 hn3)
        case c1 => exact cells_new wr (seenCells M[k]) _
        case c2 =>
          intro u hu
          simp only [seenCells, List.mem_cons, List.not_mem_nil, or_false] at hu
          rcases hu with rfl | rfl | rfl <;> rfl
        case c3 => unfold maxLen; omega
        case c4 => omega
        case c5 => simp; omega
        go_roundw
        case rel =>
          refine ⟨k + 1, hlt, by go_num, ?_, ?_⟩
          · rw [take_filter_yes hlt HP.out]
            refine ⟨by simpa using hown3, ?_⟩
            rw [hn3]; simp
          · refine (hB.alloc hsz1 _).grown hg3 (by simp; omega) (fun j hj => ?_)
            rcases hrow.2 with ⟨rfl, _⟩ | ⟨g', _, _, rfl, hg', _⟩
            · cases hj
            · cases hj; exact hg'
        case measure => simp [intOf]; omega
    · go_wp2
      go_ret
      have hkM : k = M.length := by omega
      subst hkM
      rw [List.take_length] at hrow hnil
      exact ⟨_, rfl, ⟨hrow, hnil⟩, hB⟩
end
end Go.Proofs.Ytjkdmdddgiomjaa
