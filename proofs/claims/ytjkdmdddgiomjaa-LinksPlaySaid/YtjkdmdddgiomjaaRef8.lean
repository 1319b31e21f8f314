/-
  The reference's Watch and Link. Conditions: as said.
-/
import Derived.Test.YtjkdmdddgiomjaaRef7
import Derived.Deep.AppendLies
import Derived.Deep.RegionLaw
namespace Go.Proofs.Ytjkdmdddgiomjaa
open Go.RowKit Go.Maps

section
variable {w w' : World} {R : Nat} {ll : List (Int × Int)} {M : List (Int × Int × Int)} {last : Int} {vL vM : Value}

theorem turn_grown2 {W W' w3 : World} {r : Option Nat} (hg : W'.grownBy w3 r) (hb : Below W.heap.size W W') : Turn (fun k => r = some k) W w3 :=
  (Turn.of_below hb).trans ⟨hg.os, hg.tape, hg.output, hg.size, fun k hk hne => hg.block k hk (fun e => hne e.symm)⟩

theorem RefW.pushM (h : RefW w R ll M last vL vM) {w3 : World} {g cap : Nat} {m : Int × Int × Int} (ht : Turn (fun k => vM.ownBlock = some k) w w3) (hat : vM.ownBlock = some g ∨ w.heap.size ≤ g)
    (hown : w3.ownsRow 0 53 3 (.slice (some ⟨g, 0, none⟩) (M.length + 1) cap) (M.length + 1) (M.flatMap seenCells ++ seenCells m)) :
    RLeft w R vL vM ll (M ++ [m]) last (w3.setCell ⟨R, 1, none⟩ (.slice (some ⟨g, 0, none⟩) (M.length + 1) cap)) := by
  have hh : w3.heap[R]? = w.heap[R]? := ht.block R h.lt h.notM
  have hset := Turn.setCell w3 ⟨R, 1, none⟩ (.slice (some ⟨g, 0, none⟩) (M.length + 1) cap)
  have hgR : g ≠ R := by
    rcases hat with e | e
    · exact fun hgr => h.notM (by rw [e, hgr])
    · have := h.lt; omega
  refine ⟨⟨vL, .slice (some ⟨g, 0, none⟩) (M.length + 1) cap, ⟨(head_set (hh.trans h.head)).2.1, ⟨ownsRow_keep (ownsRow_keep h.rl.1 ht fun k hk => h.apart hk) hset fun k hk e => ?_, h.rl.2⟩, ⟨?_, by simp⟩⟩, fun k hk => ?_⟩, ?_⟩
  · subst e; exact h.notL hk
  · refine ownsRow_keep (by simpa using hown) hset fun k hk e => ?_
    subst e
    cases hk
    exact hgR rfl
  · rcases mem_rblk.1 hk with rfl | hk | hk
    · exact .inl (mem_rblk.2 (.inl rfl))
    · exact .inl (mem_rblk.2 (.inr (.inl hk)))
    · cases hk
      rcases hat with e | e
      · exact .inl (mem_rblk.2 (.inr (.inr e)))
      · exact .inr e
  · refine (ht.mono fun k _ e => mem_rblk.2 (.inr (.inr e))).comp hset fun k _ e => ?_
    subst e; exact mem_rblk.2 (.inl rfl)

theorem RefW.pushL (h : RefW w R ll M last vL vM) {w3 : World} {g cap : Nat} {m : Int × Int} (ht : Turn (fun k => vL.ownBlock = some k) w w3) (hat : vL.ownBlock = some g ∨ w.heap.size ≤ g)
    (hown : w3.ownsRow 0 60 2 (.slice (some ⟨g, 0, none⟩) (ll.length + 1) cap) (ll.length + 1) (ll.flatMap pairCells ++ pairCells m)) :
    RLeft w R vL vM (ll ++ [m]) M last (w3.setCell ⟨R, 0, none⟩ (.slice (some ⟨g, 0, none⟩) (ll.length + 1) cap)) := by
  have hh : w3.heap[R]? = w.heap[R]? := ht.block R h.lt h.notL
  have hset := Turn.setCell w3 ⟨R, 0, none⟩ (.slice (some ⟨g, 0, none⟩) (ll.length + 1) cap)
  have hgR : g ≠ R := by
    rcases hat with e | e
    · exact fun hgr => h.notL (by rw [e, hgr])
    · have := h.lt; omega
  refine ⟨⟨.slice (some ⟨g, 0, none⟩) (ll.length + 1) cap, vM, ⟨(head_set (hh.trans h.head)).1, ⟨?_, by simp⟩, ⟨ownsRow_keep (ownsRow_keep h.rm.1 ht fun k hk e => h.apart e hk) hset fun k hk e => ?_, h.rm.2⟩⟩, fun k hk => ?_⟩, ?_⟩
  · refine ownsRow_keep (by simpa using hown) hset fun k hk e => ?_
    subst e
    cases hk
    exact hgR rfl
  · subst e; exact h.notM hk
  · rcases mem_rblk.1 hk with rfl | hk | hk
    · exact .inl (mem_rblk.2 (.inl rfl))
    · cases hk
      rcases hat with e | e
      · exact .inl (mem_rblk.2 (.inr (.inl e)))
      · exact .inr e
    · exact .inl (mem_rblk.2 (.inr (.inr hk)))
  · refine (ht.mono fun k _ e => mem_rblk.2 (.inr (.inl e))).comp hset fun k _ e => ?_
    subst e; exact mem_rblk.2 (.inl rfl)
theorem RLeft.after {W : World} {ll' : List (Int × Int)} {M' : List (Int × Int × Int)} {last' : Int} (hb : Below w.heap.size w W) (h : RLeft W R vL vM ll' M' last' w') : RLeft w R vL vM ll' M' last' w' := by
  obtain ⟨⟨x, y, h1, h2⟩, h3⟩ := h
  exact ⟨⟨x, y, h1, fun k hk => (h2 k hk).imp id fun hk => Nat.le_trans hb.size hk⟩, (Turn.of_below hb).trans h3⟩
theorem RLeft.afterT {W : World} {ll' : List (Int × Int)} {M' : List (Int × Int × Int)} {last' : Int} (hb : Turn (· ∈ rblk R vL vM) w W) (h : RLeft W R vL vM ll' M' last' w') : RLeft w R vL vM ll' M' last' w' := by
  obtain ⟨⟨x, y, h1, h2⟩, h3⟩ := h
  exact ⟨⟨x, y, h1, fun k hk => (h2 k hk).imp id fun hk => Nat.le_trans hb.size hk⟩, hb.trans h3⟩

set_option maxHeartbeats 2000000 in
set_option maxRecDepth 100000 in
theorem rwatch_any (h : RefW w R ll M last vL vM) (hM : M.length ≤ 1000) (h0 : 0 ≤ last) (h1 : last < BN) (a b : Int) :
    Calls Try.prog 19 #[.pointer (some ⟨R, 0, none⟩), .int .i64 a, .int .i64 b] w fun e w' => e = .returned (.tuple #[.int .i64 (watchS M last a b).1, .int .i64 (watchS M last a b).2.1]) ∧ RLeft w R vL vM ll (watchS M last a b).2.2.1 (watchS M last a b).2.2.2 w' := by
  by_cases hab : a < 1 ∨ b < 1
  · have hs : watchS M last a b = (0, 2, M, last) := by rw [watchS, if_pos hab]
    rw [hs]
    have hE := h.same (Below.refl _ w)
    clear h hs
    by_cases ha : a < 1
    · go_enter Try.func19, Try.ntmps19
      go_wp2
      go_ret2
      exact ⟨rfl, hE⟩
    · have hb : b < 1 := by omega
      go_enter Try.func19, Try.ntmps19
      go_wp2
      go_ret2
      exact ⟨rfl, hE⟩
  have ha : ¬ a < 1 := fun h => hab (.inl h)
  have hb : ¬ b < 1 := fun h => hab (.inr h)
  have cW := rwatches_any h (Nat.le_trans hM (by decide)) a
  have hlen : (M.filter fun m => m.2.1 == a).length ≤ M.length := List.length_filter_le _ _
  by_cases hf : 32 ≤ (M.filter fun m => m.2.1 == a).length
  · have hs : watchS M last a b = (0, 20, M, last) := by rw [watchS, if_neg hab, if_pos hf]
    rw [hs]
    have hE := fun w1 hb => h.same (w' := w1) hb
    have hfz : (32 : Int) ≤ (M.filter fun m => m.2.1 == a).length := by omega
    clear h hs hab
    go_enter Try.func19, Try.ntmps19
    go_wp2_with (go_at_call 25; refine cW.mono ?_; rintro e w1 ⟨v1, rfl, hv1, hb1⟩; obtain ⟨p1, c1, rfl, _, _⟩ := hv1.at)
    go_ret2
    exact ⟨rfl, hE _ hb1⟩
  · have hs : watchS M last a b = (last + 1, 0, M ++ [(last + 1, a, b)], last + 1) := by rw [watchS, if_neg hab, if_neg hf]
    rw [hs]
    have hfz : ((M.filter fun m => m.2.1 == a).length : Int) < 32 := by omega
    have h1' : last < 1099511627776 := h1
    have hw : IntKind.i64.wrap (last + 1) = last + 1 := by rw [IntKind.wrap_i64]; omega
    clear hs hab hf
    go_enter Try.func19, Try.ntmps19
    go_upto_region 5 with (go_at_call 25; refine cW.mono ?_; rintro e w1 ⟨v1, rfl, hv1, hb1⟩; obtain ⟨p1, c1, rfl, _, _⟩ := hv1.at)
    have hf2 := (h.below hb1).frozen 2
    have hc2 := (h.below hb1).cell2
    have h5 := h.setLast hb1 (last + 1)
    have hT5 := turn_set (vL := vL) (vM := vM) (R := R) hb1 2 (.int .i64 (last + 1))
    go_upto_region 6 with fail
    generalize w1.setCell ⟨R, 2, none⟩ (.int .i64 (last + 1)) = W5 at h5 hT5 ⊢
    have hc1 := h5.cell1
    have hc3 := h5.cell2
    have hrow := h5.rm.1
    have hf1 := h5.frozen 1
    have hlt5 := h5.lt
    have hnm := h5.notM
    obtain ⟨i0, hi, hz0, hz1, hz2⟩ := info_parts infoSeen
    have hS0 : W5.cell? ⟨R, 1, none⟩ = some vM ∧ W5.cell? ⟨R, 2, none⟩ = some (.int .i64 (last + 1)) := ⟨hc1, hc3⟩
    have H5 := Lib.hid h5
    clear h h5 cW
    go_region_law (first
      | (refine step_append_lies _ rfl _ _ 29 rfl 0 53 i0 _ 3 24 Try.underlying29 hi hz0 hz1 hz2 rfl (by decide) vM M.length (M.flatMap seenCells) rfl (ownsRow_alloc hrow _) ⟨W5.heap.size, 0, none⟩ 1 1 (seenCells (last + 1, a, b)) rfl rfl (cells_new W5 (seenCells (last + 1, a, b)) _) (seen_plain _) (by decide) (by unfold maxLen; omega) (by omega) (Nat.zero_le _) _ rfl ?_; intro g cap w3 hown3 hg3 hat3 hlt3; have hbW := (Below.refl W5.heap.size W5).alloc (Nat.le_refl _) (.cells (seenCells (last + 1, a, b)).toArray 53); have ht3 : Turn (fun k => vM.ownBlock = some k) W5 w3 := turn_grown2 hg3 ⟨hbW.os, hbW.tape, hbW.output, hbW.size, hbW.block⟩; have hh3 : w3.heap[R]? = W5.heap[R]? := ht3.block R hlt5 hnm; have hS1 : w3.cell? ⟨R, 1, none⟩ = some vM ∧ w3.cell? ⟨R, 2, none⟩ = some (.int .i64 (last + 1)) := ⟨(World.cell?_of_block (a := ⟨R, 1, none⟩) hh3).trans hc1, (World.cell?_of_block (a := ⟨R, 2, none⟩) hh3).trans hc3⟩; have hf3 : w3.frozen? ⟨R, 1, none⟩ = false := (World.frozen?_of_block (a := ⟨R, 1, none⟩) hh3).trans hf1))
    all_goals
      obtain ⟨s1, s2⟩ := hS1
      have hE := RefW.pushM H5.out ht3 (hat3.imp id fun e => by rw [e]; show W5.heap.size ≤ (W5.alloc _).heap.size; simp) hown3
      go_wp2
      go_ret2
      exact ⟨rfl, hE.afterT hT5⟩
end
end Go.Proofs.Ytjkdmdddgiomjaa
