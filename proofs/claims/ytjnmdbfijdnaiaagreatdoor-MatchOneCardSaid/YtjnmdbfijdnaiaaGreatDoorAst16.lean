/-
  ast.Pattern. Conditions: the tree lies as 'TrV' says, the letters as 'Letters' says.
-/
import Derived.Test.YtjnmdbfijdnaiaaGreatDoorAst15
namespace Go.Proofs.YtjnmdbfijdnaiaaGreatDoor
open Go.RowKit

set_option maxHeartbeats 4000000 in
set_option maxRecDepth 100000 in
theorem pattern_any {F : Nat → Prop} {x : Tr} {w : World} {sv : Value} (hL : Letters w) (hx : TrV F w x sv) :
    Calls Tryz.prog 34 #[.agg #[.int .i8 x.k, .int .i64 x.n, .string x.s, .string x.t, sv]] w fun e w' => e = .returned (.bool (patB x)) ∧ Below w.heap.size w w' := by
  obtain ⟨p, c, rfl⟩ := hx.kids.slice
  obtain ⟨hb1, hz1, hn1⟩ := node_box w 25 x.k x.n x.s x.t (.slice p x.l.length c)
  have hx1 := hx.below hb1
  have hL1 := hL.under hb1
  clear hx hL
  have hn1 : NodeAt (w.alloc (.cells #[.int .i8 x.k, .int .i64 x.n, .string x.s, .string x.t, .slice p x.l.length c] 25)) w.heap.size 0 x (.slice p x.l.length c) := ⟨hn1.k, hn1.n, hn1.s, hn1.t, hn1.l⟩
  go_enter Tryz.func34, Tryz.ntmps34
  go_upto_region 1 with fail
  generalize w.alloc (.cells #[.int .i8 x.k, .int .i64 x.n, .string x.s, .string x.t, .slice p x.l.length c] 25) = w1 at hb1 hz1 hn1 hx1 hL1 ⊢
  have cM := measure_any hn1 hx1
  have cF := fun W => sfits_any W (x.sz 4097) (x.dp 65)
  have cP := fun (W : World) (hb : Below w1.heap.size w1 W) => pat_rule x hL1 W w.heap.size 0 (.slice p x.l.length c) hb (hn1.keep (hb.block _ hn1.lt)) (hx1.below hb)
  clear hL1 hn1 hx1
  obtain ⟨q, hq⟩ : ∃ q, fitsB x = q := ⟨_, rfl⟩
  have cF : ∀ W, Calls Tryz.prog 56 #[.agg #[.int .i64 (x.sz 4097), .int .i64 (x.dp 65)]] W fun e w' => e = .returned (.bool q) ∧ Below W.heap.size W w' := by rw [← hq]; exact cF
  have HQ : Hid (fitsB x = q) := Lib.hid hq
  clear hq
  generalize x.sz 4097 = zz at cM cF
  generalize x.dp 65 = dd at cM cF
  cases q
  all_goals
    go_wp2_with (first
      | (go_at_call 55; refine cM.mono ?_; rintro e w5 ⟨rfl, hb5⟩)
      | (go_at_call 56; refine (cF w5).mono ?_; rintro e w6 ⟨rfl, hb6⟩; have hB6 := hb5.trans (hb6.mono hb5.size))
      | (go_at_call 57; refine (cP _ hB6).mono ?_; rintro e w7 ⟨rfl, hb7⟩; have hB7 := hB6.trans (hb7.mono hB6.size)))
  · go_ret
    exact ⟨by unfold patB; rw [HQ.out]; rfl, hb1.trans (hB6.mono hb1.size)⟩
  · go_ret
    exact ⟨by unfold patB; rw [HQ.out]; rfl, hb1.trans (hB7.mono hb1.size)⟩
end Go.Proofs.YtjnmdbfijdnaiaaGreatDoor
