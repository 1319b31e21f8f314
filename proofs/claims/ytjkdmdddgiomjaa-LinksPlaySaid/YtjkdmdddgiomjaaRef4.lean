/-
  The reference's Linked. Conditions: as said.
-/
import Derived.Test.YtjkdmdddgiomjaaRef3
namespace Go.Proofs.Ytjkdmdddgiomjaa
open Go.RowKit Go.Maps

def isPair (a b : Int) (m : Int × Int) : Bool := m.1 == min a b && m.2 == max a b

theorem run_pair_eq (W : World) (x y z u : Int) : (Op.equalIn 10000 60 (.agg #[.int .i64 x, .int .i64 y]) (.agg #[.int .i64 z, .int .i64 u])).run Try.prog W = .ok (x == z && y == u) W := by
  have hi : ∃ i, Try.prog.info? 3 = some i := by
    obtain ⟨i, h, _⟩ := info_parts infoInt
    exact ⟨i, h⟩
  obtain ⟨i, hi⟩ := hi
  rw [run_equalIn_array W 9999 _ _ Try.underlying60 hi]
  rw [show List.range 2 = [0, 1] from rfl]
  rw [show Try.prog.cellsOf 3 = 1 from by kernel_rfl]
  simp only [Op.eqItems]
  go_simp
  by_cases h1 : x = z <;> by_cases h2 : y = u <;> simp [h1, h2]

section
variable {w w' : World} {R : Nat} {ll : List (Int × Int)} {M : List (Int × Int × Int)} {last : Int} {vL vM : Value}
def LinkedRel (a b : Int) (ll : List (Int × Int)) (w : World) (i : Value) (wr : World) : Prop :=
  ∃ k : Nat, k ≤ ll.length ∧ i = .int .i64 k ∧ (ll.take k).any (isPair a b) = false ∧ Below w.heap.size w wr

set_option maxHeartbeats 1000000 in
set_option maxRecDepth 100000 in
theorem rlinked_any (h : RefW w R ll M last vL vM) (hL : ll.length ≤ 1000) (a b : Int) :
    Calls Try.prog 23 #[.pointer (some ⟨R, 0, none⟩), .int .i64 a, .int .i64 b] w fun e w' => e = .returned (.bool (ll.any (isPair a b))) ∧ Below w.heap.size w w' := by
  have hc1 := h.cell0
  have hR := h.lt
  obtain ⟨pm, cm, rfl, hcm, hcells⟩ := h.rl.at
  have HC := Lib.hid hcells
  clear h hcells
  go_enter Try.func23, Try.ntmps23
  go_wp2
  go_loopw [7] (fun i wr => LinkedRel a b ll w i wr) (fun i _ => ll.length - (intOf i).toNat)
  case atStart => exact ⟨0, Nat.zero_le _, rfl, by simp, Below.refl _ _⟩
  case round =>
    obtain ⟨k, hk, rfl, hO, hB⟩ := hrel
    have hc1' := (hB.cell (p := ⟨R, 0, none⟩) hR).trans hc1
    have hsz1 := hB.size
    by_cases hlt : k < ll.length
    · have hltz : (k : Int) < (ll.length : Int) := by omega
      obtain ⟨g, rfl, e0, e1⟩ := HC.out k hlt
      have hgl := cell_lt e0
      have e0' := (hB.cell (p := ⟨g, k * 2, none⟩) hgl).trans e0
      have e1' := (hB.cell (p := ⟨g, k * 2 + 1, none⟩) hgl).trans e1
      have hmove : ∀ W : World, Below wr.heap.size wr W → W.cell? ⟨R, 0, none⟩ = some (.slice (some ⟨g, 0, none⟩) ll.length cm) ∧ W.cell? ⟨g, k * 2, none⟩ = some (.int .i64 ll[k].1) ∧ W.cell? ⟨g, k * 2 + 1, none⟩ = some (.int .i64 ll[k].2) := fun W hb =>
        ⟨(hb.cell (p := ⟨R, 0, none⟩) (cell_lt hc1')).trans hc1', (hb.cell (p := ⟨g, k * 2, none⟩) (cell_lt e0')).trans e0', (hb.cell (p := ⟨g, k * 2 + 1, none⟩) (cell_lt e0')).trans e1'⟩
      have hnext : (ll.take (k + 1)).any (isPair a b) = ((ll.take k).any (isPair a b) || isPair a b ll[k]) := by rw [List.take_succ_eq_append_getElem hlt, List.any_append]; simp
      rw [hO, Bool.false_or] at hnext
      have hmem : ll[k] ∈ ll := List.getElem_mem hlt
      have HN := Lib.hid hnext
      have HM := Lib.hid hmem
      clear hnext hmem hO
      have hS0 := hmove wr (Below.refl _ _)
      have hpe := run_pair_eq
      cases hq : (ll[k].1 == min a b && ll[k].2 == max a b)
      · have hq' := Lib.hid (show isPair a b ll[k] = false from hq)
        go_upto_region 4 with fail
        go_region_held3 (fun W => W.cell? ⟨R, 0, none⟩ = some (.slice (some ⟨g, 0, none⟩) ll.length cm) ∧ W.cell? ⟨g, k * 2, none⟩ = some (.int .i64 ll[k].1) ∧ W.cell? ⟨g, k * 2 + 1, none⟩ = some (.int .i64 ll[k].2)) (first | exact hS0 | exact hS1) (first
          | (go_at_call 41; refine (rpair_any _ _ _).mono ?_; rintro e w1 ⟨rfl, hb1⟩; have hS1 := hmove w1 ⟨hb1.os, hb1.tape, hb1.output, hb1.size, hb1.block⟩))
        have hB1 : Below w.heap.size w w1 := hB.trans ((⟨hb1.os, hb1.tape, hb1.output, hb1.size, hb1.block⟩ : Below wr.heap.size wr w1).mono hsz1)
        go_wp2
        go_roundw
        case rel => exact ⟨k + 1, hlt, by go_num, by rw [HN.out, hq'.out], hB1⟩
        case measure => simp [intOf]; omega
      · have hq' := Lib.hid (show isPair a b ll[k] = true from hq)
        go_upto_region 4 with fail
        go_region_held3 (fun W => W.cell? ⟨R, 0, none⟩ = some (.slice (some ⟨g, 0, none⟩) ll.length cm) ∧ W.cell? ⟨g, k * 2, none⟩ = some (.int .i64 ll[k].1) ∧ W.cell? ⟨g, k * 2 + 1, none⟩ = some (.int .i64 ll[k].2)) (first | exact hS0 | exact hS1) (first
          | (go_at_call 41; refine (rpair_any _ _ _).mono ?_; rintro e w1 ⟨rfl, hb1⟩; have hS1 := hmove w1 ⟨hb1.os, hb1.tape, hb1.output, hb1.size, hb1.block⟩))
        have hB1 : Below w.heap.size w w1 := hB.trans ((⟨hb1.os, hb1.tape, hb1.output, hb1.size, hb1.block⟩ : Below wr.heap.size wr w1).mono hsz1)
        go_wp2
        go_ret
        have hany : ll.any (isPair a b) = true := List.any_eq_true.2 ⟨_, HM.out, hq'.out⟩
        exact ⟨by rw [hany]; rfl, hB1⟩
    · go_wp2
      go_ret
      have hkM : k = ll.length := by omega
      subst hkM
      rw [List.take_length] at hO
      exact ⟨by rw [hO]; rfl, hB⟩
end
end Go.Proofs.Ytjkdmdddgiomjaa
