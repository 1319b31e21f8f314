/-
  The reference's Link. Conditions: as said.
-/
import Derived.Test.YtjkdmdddgiomjaaRef8
namespace Go.Proofs.Ytjkdmdddgiomjaa
open Go.RowKit Go.Maps

def rlinkS (a b : Int) (ll : List (Int × Int)) : Int × List (Int × Int) :=
  if !mayB a b then (2, ll) else if ll.any (isPair a b) then (0, ll) else if 64 ≤ max (linksR a ll).length (linksR b ll).length then (20, ll) else (0, ll ++ [(min a b, max a b)])

section
variable {w w' : World} {R : Nat} {ll : List (Int × Int)} {M : List (Int × Int × Int)} {last : Int} {vL vM : Value}

set_option maxHeartbeats 4000000 in
set_option maxRecDepth 100000 in
theorem rlink_any (h : RefW w R ll M last vL vM) (hL : ll.length ≤ 900) (a b : Int) :
    Calls Try.prog 17 #[.pointer (some ⟨R, 0, none⟩), .int .i64 a, .int .i64 b] w fun e w' => e = .returned (.int .i64 (rlinkS a b ll).1) ∧ RLeft w R vL vM (rlinkS a b ll).2 M last w' := by
  cases hm : mayB a b
  · have hs : rlinkS a b ll = (2, ll) := by rw [rlinkS, hm]; rfl
    rw [hs]
    have hE := h.same (Below.refl _ w)
    have hno : a < 1 ∨ b < 1 ∨ a = b := by
      have : ¬ (1 ≤ a ∧ 1 ≤ b ∧ a ≠ b) := fun hh => by rw [(mayB_iff a b).2 hh] at hm; cases hm
      omega
    clear h hm hs
    by_cases ha : a < 1
    · go_enter Try.func17, Try.ntmps17
      go_wp2
      go_ret
      exact ⟨rfl, hE⟩
    · by_cases hb : b < 1
      · go_enter Try.func17, Try.ntmps17
        go_wp2
        go_ret
        exact ⟨rfl, hE⟩
      · obtain rfl : a = b := by omega
        go_enter Try.func17, Try.ntmps17
        go_wp2
        go_ret
        exact ⟨rfl, hE⟩
  obtain ⟨ha1, hb1, hab⟩ := (mayB_iff a b).1 hm
  have hab' : (a == b) = false := by simpa using hab
  have hna : ¬ a < 1 := by omega
  have hnb : ¬ b < 1 := by omega
  have cD := rlinked_any h (by omega) a b
  cases hany : ll.any (isPair a b)
  case true =>
    have hs : rlinkS a b ll = (0, ll) := by rw [rlinkS, hm, hany]; rfl
    rw [hs]
    rw [hany] at cD
    have hE := fun w1 hb => h.same (w' := w1) hb
    clear h hm hs hab hany
    go_enter Try.func17, Try.ntmps17
    go_wp2_with (go_at_call 23; refine cD.mono ?_; rintro e w1 ⟨rfl, hb1⟩)
    go_ret
    exact ⟨rfl, hE _ hb1⟩
  rw [hany] at cD
  have cA := fun (W : World) (hb : Below w.heap.size w W) => rlinks_any (h.below hb) (by omega) a
  have cB := fun (W : World) (hb : Below w.heap.size w W) => rlinks_any (h.below hb) (by omega) b
  by_cases hfa : 64 ≤ (linksR a ll).length
  · have hs : rlinkS a b ll = (20, ll) := by rw [rlinkS, hm, hany, if_neg (by simp), if_neg (by simp), if_pos (by omega)]
    rw [hs]
    have hE := fun w1 hb => h.same (w' := w1) hb
    have hfz : (64 : Int) ≤ (linksR a ll).length := by omega
    clear h hm hs hab hany cB
    go_enter Try.func17, Try.ntmps17
    go_wp2_with (first
      | (go_at_call 23; refine cD.mono ?_; rintro e w1 ⟨rfl, hb1⟩)
      | (go_at_call 24; refine (cA _ hb1).mono ?_; rintro e w2 ⟨v2, rfl, hv2, hb2⟩; obtain ⟨p2, c2, rfl, _, _⟩ := hv2.at))
    go_ret
    exact ⟨rfl, hE _ (hb1.trans (hb2.mono hb1.size))⟩
  have hfaz : ((linksR a ll).length : Int) < 64 := by omega
  by_cases hfb : 64 ≤ (linksR b ll).length
  · have hs : rlinkS a b ll = (20, ll) := by rw [rlinkS, hm, hany, if_neg (by simp), if_neg (by simp), if_pos (by omega)]
    rw [hs]
    have hE := fun w1 hb => h.same (w' := w1) hb
    have hfz : (64 : Int) ≤ (linksR b ll).length := by omega
    clear h hm hs hab hany hfa
    go_enter Try.func17, Try.ntmps17
    go_upto_region 5 with (go_at_call 23; refine cD.mono ?_; rintro e w1 ⟨rfl, hb1⟩)
    have cAB : ∀ (W : World) (x : Int), Below w.heap.size w W → (x = a ∨ x = b) → Calls Try.prog 24 #[.pointer (some ⟨R, 0, none⟩), .int .i64 x] W fun e w' => ∃ v, e = .returned v ∧ NewInts W w' v (linksR x ll) ∧ Below W.heap.size W w' := by
      rintro W x hb (rfl | rfl)
      · exact cA W hb
      · exact cB W hb
    have hBz := hb1
    go_wp2_with (go_at_call 24; refine (cAB _ _ hBz (by first | exact .inl rfl | exact .inr rfl)).mono ?_; rintro e w2 ⟨v2, rfl, hv2, hb2⟩; obtain ⟨p2, c2, rfl, _, _⟩ := hv2.at; have hBz := hBz.trans (hb2.mono hBz.size))
    go_ret
    exact ⟨rfl, hE _ hBz⟩
  have hfbz : ((linksR b ll).length : Int) < 64 := by omega
  have hs : rlinkS a b ll = (0, ll ++ [(min a b, max a b)]) := by rw [rlinkS, hm, hany, if_neg (by simp), if_neg (by simp), if_neg (by omega)]
  rw [hs]
  clear hm hs hab hany hfa hfb
  go_enter Try.func17, Try.ntmps17
  go_upto_region 5 with (go_at_call 23; refine cD.mono ?_; rintro e w1 ⟨rfl, hb1⟩)
  have cAB : ∀ (W : World) (x : Int), Below w.heap.size w W → (x = a ∨ x = b) → Calls Try.prog 24 #[.pointer (some ⟨R, 0, none⟩), .int .i64 x] W fun e w' => ∃ v, e = .returned v ∧ NewInts W w' v (linksR x ll) ∧ Below W.heap.size W w' := by
    rintro W x hb (rfl | rfl)
    · exact cA W hb
    · exact cB W hb
  have hBz := hb1
  go_upto_region 7 with (go_at_call 24; refine (cAB _ _ hBz (by first | exact .inl rfl | exact .inr rfl)).mono ?_; rintro e w2 ⟨v2, rfl, hv2, hb2⟩; obtain ⟨p2, c2, rfl, _, _⟩ := hv2.at; have hBz := hBz.trans (hb2.mono hBz.size))
  have h5 := h.below hBz
  have hT5 : Turn (· ∈ rblk R vL vM) w w2 := Turn.of_below hBz
  have hc1 := h5.cell0
  have hrow := h5.rl.1
  have hf1 := h5.frozen 0
  have hlt5 := h5.lt
  have hnl := h5.notL
  obtain ⟨i1, hj, hy0, hy1, hy2⟩ := info_parts infoPair
  have H5 := Lib.hid h5
  clear h h5 cD cA cB cAB hb1 hBz
  go_region_law (first
    | (refine step_append_lies _ rfl _ _ 69 rfl 0 60 i1 _ 2 16 Try.underlying69 hj hy0 hy1 hy2 rfl (by decide) vL ll.length (ll.flatMap pairCells) rfl (ownsRow_alloc hrow4 _) ⟨w4.heap.size, 0, none⟩ 1 1 (pairCells (min a b, max a b)) rfl rfl (cells_new w4 (pairCells (min a b, max a b)) _) (pair_plain _) (by decide) (by unfold maxLen; omega) (by omega) (Nat.zero_le _) _ rfl ?_; intro g cap w3 hown3 hg3 hat3 hlt3; have hbW := hb4'.alloc hb4'.size (.cells (pairCells (min a b, max a b)).toArray 60); have ht3 : Turn (fun k => vL.ownBlock = some k) w2 w3 := turn_grown2 hg3 ⟨hbW.os, hbW.tape, hbW.output, hbW.size, hbW.block⟩; have hh3 : w3.heap[R]? = w2.heap[R]? := ht3.block R hlt5 hnl; have hS1 : w3.cell? ⟨R, 0, none⟩ = some vL := (World.cell?_of_block (a := ⟨R, 0, none⟩) hh3).trans hc1; have hf3 : w3.frozen? ⟨R, 0, none⟩ = false := (World.frozen?_of_block (a := ⟨R, 0, none⟩) hh3).trans hf1)
    | (go_simp; go_at_call 41; refine (rpair_any _ _ _).mono ?_; rintro e w4 ⟨rfl, hb4⟩; have hb4' : Below w2.heap.size w2 w4 := ⟨hb4.os, hb4.tape, hb4.output, hb4.size, hb4.block⟩; have hrow4 := ownsRow_below hrow hb4'; have hc4 : w4.cell? ⟨R, 0, none⟩ = some vL := (hb4'.cell (p := ⟨R, 0, none⟩) hlt5).trans hc1; have hcA : ∀ o, (w4.alloc o).cell? ⟨R, 0, none⟩ = some vL := fun o => ((hb4'.alloc hb4'.size o).cell (p := ⟨R, 0, none⟩) hlt5).trans hc1))
  all_goals
    have hE := RefW.pushL (m := (min a b, max a b)) H5.out ht3 (hat3.imp id fun e => by rw [e]; show w2.heap.size ≤ (w4.alloc _).heap.size; have := hb4'.size; simp; omega) hown3
    go_wp2
    go_ret
    exact ⟨rfl, hE.afterT hT5⟩
end
end Go.Proofs.Ytjkdmdddgiomjaa
