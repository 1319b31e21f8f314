/-
  ast.guard; ast.Guarded, Test, Guard. Conditions: the tree lies as 'TrV' says, the letters as 'Letters' says.
-/
import Derived.Test.YtlhobpknflobgaaGreatDoorGd4
namespace Go.Proofs.YtlhobpknflobgaaGreatDoor
open Go.RowKit

/-- May a tree be a guard (its size is not looked at)? -/
def gdI (x : Tr) : Bool := x.k == 4 && (bareB x false false false true && x.l.all tstB)
def grdB (x : Tr) : Bool := fitsB x && x.grd
def tstC (x : Tr) : Bool := fitsB x && tstB x
def gdB (x : Tr) : Bool := fitsB x && gdI x

set_option maxHeartbeats 4000000 in
set_option maxRecDepth 100000 in
theorem gd_rule (x : Tr) {F : Nat → Prop} {w0 : World} (hL0 : Letters w0) : RuleSays F 103 gdI w0 x := by
  intro w g o sv hW h hx
  have hL := hL0.under hW
  clear hL0 hW
  obtain ⟨p, c, rfl⟩ := hx.kids.slice
  have HV := Lib.hid (show gdI x = (x.k == 4 && (bareB x false false false true && x.l.all tstB)) from rfl)
  have cO := only_any h false false false true
  have cE := fun (W : World) (hb : Below w.heap.size w W) => eachT_any (P := tstB) (hx.kids.under hb) fun y hy => tst_rule y (hL.under hb)
  have h4 := h.l
  have hmv : ∀ W : World, Below w.heap.size w W → W.cell? ⟨g, o + 4, none⟩ = some (.slice p x.l.length c) := fun W hb => (hb.cell (p := ⟨g, o + 4, none⟩) (cell_block h4)).trans h4
  have HM := Lib.hid hmv
  have hlen : x.l.length ≤ 2199023255552 := hx.kids.len
  obtain ⟨a0, _, _, _, _⟩ := h
  clear hx hL hmv h4
  generalize hq : x.l.all tstB = q at cE HV
  clear hq
  generalize gdI x = r at HV ⊢
  cases h1 : (x.k == 4)
  · have HN : Hid (r = false) := by unfold Hid; rw [HV.out, h1]; rfl
    clear cO cE HV
    go_enter Tryz.func103, Tryz.ntmps103
    go_wp2
    go_ret
    exact ⟨by rw [HN.out]; rfl, Below.refl _ _⟩
  cases hb : bareB x false false false true
  · have HN : Hid (r = false) := by unfold Hid; rw [HV.out, hb]; simp
    rw [hb] at cO
    clear cE hb HV
    go_enter Tryz.func103, Tryz.ntmps103
    go_wp2_with (go_at_call 142; refine cO.mono ?_; rintro e w5 ⟨rfl, hb5⟩)
    go_ret
    exact ⟨by rw [HN.out]; rfl, hb5⟩
  · have HN : Hid (r = q) := by unfold Hid; rw [HV.out, h1, hb]; rfl
    rw [hb] at cO
    clear hb HV
    go_enter Tryz.func103, Tryz.ntmps103
    go_wp2_with (first
      | (go_at_call 142; refine cO.mono ?_; rintro e w5 ⟨rfl, hb5⟩; have b4 := HM.out _ hb5)
      | (go_at_call 144; refine (cE _ hb5).mono ?_; rintro e w6 ⟨rfl, hb6⟩))
    go_ret
    exact ⟨by rw [HN.out]; rfl, hb5.trans (hb6.mono hb5.size)⟩

set_option maxHeartbeats 4000000 in
set_option maxRecDepth 100000 in
theorem guarded_any {F : Nat → Prop} {x : Tr} {w : World} {sv : Value} (hL : Letters w) (hx : TrV F w x sv) :
    Calls Tryz.prog 60 #[.agg #[.int .i8 x.k, .int .i64 x.n, .string x.s, .string x.t, sv]] w fun e w' => e = .returned (.bool (grdB x)) ∧ Below w.heap.size w w' := by
  obtain ⟨p, c, rfl⟩ := hx.kids.slice
  obtain ⟨hb1, hz1, hn1⟩ := node_box w 25 x.k x.n x.s x.t (.slice p x.l.length c)
  have hx1 := hx.below hb1
  have hL1 := hL.under hb1
  clear hx hL
  have hn1 : NodeAt (w.alloc (.cells #[.int .i8 x.k, .int .i64 x.n, .string x.s, .string x.t, .slice p x.l.length c] 25)) w.heap.size 0 x (.slice p x.l.length c) := ⟨hn1.k, hn1.n, hn1.s, hn1.t, hn1.l⟩
  go_enter Tryz.func60, Tryz.ntmps60
  go_upto_region 1 with fail
  generalize w.alloc (.cells #[.int .i8 x.k, .int .i64 x.n, .string x.s, .string x.t, .slice p x.l.length c] 25) = w1 at hb1 hz1 hn1 hx1 hL1 ⊢
  have cM := measure_any hn1 hx1
  have cF := fun W => sfits_any W (x.sz 4097) (x.dp 65)
  have cP := fun (W : World) (hb : Below w1.heap.size w1 W) => grd_rule x hL1 W w.heap.size 0 (.slice p x.l.length c) hb (hn1.keep (hb.block _ hn1.lt)) (hx1.below hb)
  clear hL1 hn1 hx1
  obtain ⟨q, hq⟩ : ∃ q, fitsB x = q := ⟨_, rfl⟩
  have cF : ∀ W, Calls Tryz.prog 95 #[.agg #[.int .i64 (x.sz 4097), .int .i64 (x.dp 65)]] W fun e w' => e = .returned (.bool q) ∧ Below W.heap.size W w' := by rw [← hq]; exact cF
  have HQ : Hid (fitsB x = q) := Lib.hid hq
  clear hq
  generalize x.sz 4097 = zz at cM cF
  generalize x.dp 65 = dd at cM cF
  cases q
  all_goals
    go_wp2_with (first
      | (go_at_call 94; refine cM.mono ?_; rintro e w5 ⟨rfl, hb5⟩)
      | (go_at_call 95; refine (cF w5).mono ?_; rintro e w6 ⟨rfl, hb6⟩; have hB6 := hb5.trans (hb6.mono hb5.size))
      | (go_at_call 104; refine (cP _ hB6).mono ?_; rintro e w7 ⟨rfl, hb7⟩; have hB7 := hB6.trans (hb7.mono hB6.size)))
  · go_ret
    exact ⟨by unfold grdB; rw [HQ.out]; rfl, hb1.trans (hB6.mono hb1.size)⟩
  · go_ret
    exact ⟨by unfold grdB; rw [HQ.out]; rfl, hb1.trans (hB7.mono hb1.size)⟩
set_option maxHeartbeats 4000000 in
set_option maxRecDepth 100000 in
theorem test_any {F : Nat → Prop} {x : Tr} {w : World} {sv : Value} (hL : Letters w) (hx : TrV F w x sv) :
    Calls Tryz.prog 54 #[.agg #[.int .i8 x.k, .int .i64 x.n, .string x.s, .string x.t, sv]] w fun e w' => e = .returned (.bool (tstC x)) ∧ Below w.heap.size w w' := by
  obtain ⟨p, c, rfl⟩ := hx.kids.slice
  obtain ⟨hb1, hz1, hn1⟩ := node_box w 25 x.k x.n x.s x.t (.slice p x.l.length c)
  have hx1 := hx.below hb1
  have hL1 := hL.under hb1
  clear hx hL
  have hn1 : NodeAt (w.alloc (.cells #[.int .i8 x.k, .int .i64 x.n, .string x.s, .string x.t, .slice p x.l.length c] 25)) w.heap.size 0 x (.slice p x.l.length c) := ⟨hn1.k, hn1.n, hn1.s, hn1.t, hn1.l⟩
  go_enter Tryz.func54, Tryz.ntmps54
  go_upto_region 1 with fail
  generalize w.alloc (.cells #[.int .i8 x.k, .int .i64 x.n, .string x.s, .string x.t, .slice p x.l.length c] 25) = w1 at hb1 hz1 hn1 hx1 hL1 ⊢
  have cM := measure_any hn1 hx1
  have cF := fun W => sfits_any W (x.sz 4097) (x.dp 65)
  have cP := fun (W : World) (hb : Below w1.heap.size w1 W) => tst_rule x hL1 W w.heap.size 0 (.slice p x.l.length c) hb (hn1.keep (hb.block _ hn1.lt)) (hx1.below hb)
  clear hL1 hn1 hx1
  obtain ⟨q, hq⟩ : ∃ q, fitsB x = q := ⟨_, rfl⟩
  have cF : ∀ W, Calls Tryz.prog 95 #[.agg #[.int .i64 (x.sz 4097), .int .i64 (x.dp 65)]] W fun e w' => e = .returned (.bool q) ∧ Below W.heap.size W w' := by rw [← hq]; exact cF
  have HQ : Hid (fitsB x = q) := Lib.hid hq
  clear hq
  generalize x.sz 4097 = zz at cM cF
  generalize x.dp 65 = dd at cM cF
  cases q
  all_goals
    go_wp2_with (first
      | (go_at_call 94; refine cM.mono ?_; rintro e w5 ⟨rfl, hb5⟩)
      | (go_at_call 95; refine (cF w5).mono ?_; rintro e w6 ⟨rfl, hb6⟩; have hB6 := hb5.trans (hb6.mono hb5.size))
      | (go_at_call 96; refine (cP _ hB6).mono ?_; rintro e w7 ⟨rfl, hb7⟩; have hB7 := hB6.trans (hb7.mono hB6.size)))
  · go_ret
    exact ⟨by unfold tstC; rw [HQ.out]; rfl, hb1.trans (hB6.mono hb1.size)⟩
  · go_ret
    exact ⟨by unfold tstC; rw [HQ.out]; rfl, hb1.trans (hB7.mono hb1.size)⟩
set_option maxHeartbeats 4000000 in
set_option maxRecDepth 100000 in
theorem guard_any {F : Nat → Prop} {x : Tr} {w : World} {sv : Value} (hL : Letters w) (hx : TrV F w x sv) :
    Calls Tryz.prog 57 #[.agg #[.int .i8 x.k, .int .i64 x.n, .string x.s, .string x.t, sv]] w fun e w' => e = .returned (.bool (gdB x)) ∧ Below w.heap.size w w' := by
  obtain ⟨p, c, rfl⟩ := hx.kids.slice
  obtain ⟨hb1, hz1, hn1⟩ := node_box w 25 x.k x.n x.s x.t (.slice p x.l.length c)
  have hx1 := hx.below hb1
  have hL1 := hL.under hb1
  clear hx hL
  have hn1 : NodeAt (w.alloc (.cells #[.int .i8 x.k, .int .i64 x.n, .string x.s, .string x.t, .slice p x.l.length c] 25)) w.heap.size 0 x (.slice p x.l.length c) := ⟨hn1.k, hn1.n, hn1.s, hn1.t, hn1.l⟩
  go_enter Tryz.func57, Tryz.ntmps57
  go_upto_region 1 with fail
  generalize w.alloc (.cells #[.int .i8 x.k, .int .i64 x.n, .string x.s, .string x.t, .slice p x.l.length c] 25) = w1 at hb1 hz1 hn1 hx1 hL1 ⊢
  have cM := measure_any hn1 hx1
  have cF := fun W => sfits_any W (x.sz 4097) (x.dp 65)
  have cP := fun (W : World) (hb : Below w1.heap.size w1 W) => gd_rule x hL1 W w.heap.size 0 (.slice p x.l.length c) hb (hn1.keep (hb.block _ hn1.lt)) (hx1.below hb)
  clear hL1 hn1 hx1
  obtain ⟨q, hq⟩ : ∃ q, fitsB x = q := ⟨_, rfl⟩
  have cF : ∀ W, Calls Tryz.prog 95 #[.agg #[.int .i64 (x.sz 4097), .int .i64 (x.dp 65)]] W fun e w' => e = .returned (.bool q) ∧ Below W.heap.size W w' := by rw [← hq]; exact cF
  have HQ : Hid (fitsB x = q) := Lib.hid hq
  clear hq
  generalize x.sz 4097 = zz at cM cF
  generalize x.dp 65 = dd at cM cF
  cases q
  all_goals
    go_wp2_with (first
      | (go_at_call 94; refine cM.mono ?_; rintro e w5 ⟨rfl, hb5⟩)
      | (go_at_call 95; refine (cF w5).mono ?_; rintro e w6 ⟨rfl, hb6⟩; have hB6 := hb5.trans (hb6.mono hb5.size))
      | (go_at_call 103; refine (cP _ hB6).mono ?_; rintro e w7 ⟨rfl, hb7⟩; have hB7 := hB6.trans (hb7.mono hB6.size)))
  · go_ret
    exact ⟨by unfold gdB; rw [HQ.out]; rfl, hb1.trans (hB6.mono hb1.size)⟩
  · go_ret
    exact ⟨by unfold gdB; rw [HQ.out]; rfl, hb1.trans (hB7.mono hb1.size)⟩
end Go.Proofs.YtlhobpknflobgaaGreatDoor
