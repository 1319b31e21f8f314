/-
  What match's searches ask: match.May$1, find$1, All$1, All$2. Conditions: the trees lie as 'TrV' says.
-/
import Derived.Test.YtjnmdbfijdnaiaaGreatDoorBind1
namespace Go.Proofs.YtjnmdbfijdnaiaaGreatDoor
open Go.RowKit

theorem box6 (w : World) (a b c d e f : Value) (T : TypeId) : (w.alloc (.cells #[a, b, c, d, e, f] T)).cell? ⟨w.heap.size, 0, none⟩ = some a ∧ (w.alloc (.cells #[a, b, c, d, e, f] T)).cell? ⟨w.heap.size, 1, none⟩ = some b ∧ (w.alloc (.cells #[a, b, c, d, e, f] T)).cell? ⟨w.heap.size, 2, none⟩ = some c ∧
    (w.alloc (.cells #[a, b, c, d, e, f] T)).cell? ⟨w.heap.size, 3, none⟩ = some d ∧ (w.alloc (.cells #[a, b, c, d, e, f] T)).cell? ⟨w.heap.size, 4, none⟩ = some e ∧ (w.alloc (.cells #[a, b, c, d, e, f] T)).cell? ⟨w.heap.size, 5, none⟩ = some f := by
  refine ⟨?_, ?_, ?_, ?_, ?_, ?_⟩ <;> (rw [World.cell?_alloc_at _ _ _ _ (by simp)]; rfl)

def undB (s : ByteArray) : Bool := s.toList == [95]
/-- A bind that may not be. -/
def badB (b : Bd) : Bool := undB b.s || (!nameA b.s || !(chkT b.t == 0))

set_option maxHeartbeats 1000000 in
theorem find1_any {W : World} {bs : Nat} {s : ByteArray} {b : Bd} {sv : Value} (hs : W.cell? ⟨bs, 0, none⟩ = some (.string s)) :
    Calls Tryz.prog 82 #[.agg #[.string b.s, .int .i8 b.t.k, .int .i64 b.t.n, .string b.t.s, .string b.t.t, sv], .pointer (some ⟨bs, 0, none⟩)] W fun e w' => e = .returned (.bool (b.s.toList == s.toList)) ∧ Below W.heap.size W w' := by
  have e0 : (W.alloc (.cells #[.string b.s, .int .i8 b.t.k, .int .i64 b.t.n, .string b.t.s, .string b.t.t, sv] 48)).cell? ⟨W.heap.size, 0, none⟩ = some (.string b.s) := by rw [World.cell?_alloc_at _ _ _ _ (by simp)]; rfl
  have hb := alloc_below W (.cells #[.string b.s, .int .i8 b.t.k, .int .i64 b.t.n, .string b.t.s, .string b.t.t, sv] 48)
  have hs1 := (hb.cell (p := ⟨bs, 0, none⟩) (cell_block hs)).trans hs
  go_enter Tryz.func82, Tryz.ntmps82
  go_wp2
  go_ret
  exact ⟨rfl, hb⟩

set_option maxHeartbeats 1000000 in
theorem all1_any {F : Nat → Prop} {W : World} {x : Tr} {sv : Value} (hL : Letters W) (hx : TrV F W x sv) :
    Calls Tryz.prog 33 #[.agg #[.int .i8 x.k, .int .i64 x.n, .string x.s, .string x.t, sv]] W fun e w' => e = .returned (.bool (!patB x)) ∧ Below W.heap.size W w' := by
  obtain ⟨e0, e1, e2, e3, e4⟩ := box5 W (.int .i8 x.k) (.int .i64 x.n) (.string x.s) (.string x.t) sv 25
  have hb := alloc_below W (.cells #[.int .i8 x.k, .int .i64 x.n, .string x.s, .string x.t, sv] 25)
  have cP := pattern_any (hL.under hb) (hx.below hb)
  clear hL hx
  go_enter Tryz.func33, Tryz.ntmps33
  go_wp2_with (go_at_call 34; refine cP.mono ?_; rintro e w5 ⟨rfl, hb5⟩)
  go_ret
  exact ⟨rfl, hb.trans (hb5.mono hb.size)⟩

set_option maxHeartbeats 1000000 in
theorem all2_any {F : Nat → Prop} {W : World} {x : Tr} {sv : Value} (hL : Letters W) (hx : TrV F W x sv) :
    Calls Tryz.prog 36 #[.agg #[.int .i8 x.k, .int .i64 x.n, .string x.s, .string x.t, sv]] W fun e w' => e = .returned (.bool (!(chkT x == 0))) ∧ Below W.heap.size W w' := by
  obtain ⟨e0, e1, e2, e3, e4⟩ := box5 W (.int .i8 x.k) (.int .i64 x.n) (.string x.s) (.string x.t) sv 28
  have hb := alloc_below W (.cells #[.int .i8 x.k, .int .i64 x.n, .string x.s, .string x.t, sv] 28)
  have cP := tcheck_any (hL.under hb) (hx.below hb)
  clear hL hx
  generalize chkT x = q at cP ⊢
  go_enter Tryz.func36, Tryz.ntmps36
  go_wp2_with (go_at_call 29; refine cP.mono ?_; rintro e w5 ⟨rfl, hb5⟩)
  all_goals
    go_ret
    exact ⟨rfl, hb.trans (hb5.mono hb.size)⟩

set_option maxHeartbeats 2000000 in
set_option maxRecDepth 100000 in
theorem may1_any {F : Nat → Prop} {W : World} {b : Bd} {sv : Value} (hL : Letters W) (hx : TrV F W b.t sv) (hs : b.s.size ≤ BL * 64) :
    Calls Tryz.prog 27 #[.agg #[.string b.s, .int .i8 b.t.k, .int .i64 b.t.n, .string b.t.s, .string b.t.t, sv]] W fun e w' => e = .returned (.bool (badB b)) ∧ Below W.heap.size W w' := by
  obtain ⟨a0, a1, a2, a3, a4, a5⟩ := box6 W (.string b.s) (.int .i8 b.t.k) (.int .i64 b.t.n) (.string b.t.s) (.string b.t.t) sv 48
  have hb := alloc_below W (.cells #[.string b.s, .int .i8 b.t.k, .int .i64 b.t.n, .string b.t.s, .string b.t.t, sv] 48)
  have hL1 := hL.under hb
  have hx1 := hx.below hb
  have hs' : b.s.size ≤ 140737488355328 := hs
  have hbad : badB b = (undB b.s || (!nameA b.s || !(chkT b.t == 0))) := rfl
  have cN := nameA_any hL1 b.s hs'
  have cC := fun (W' : World) (hb : Below _ _ W') => tcheck_any (hL1.under hb) (hx1.below hb)
  have HB := Lib.hid hbad
  clear hL hx hbad hL1 hx1 hs hs'
  go_enter Tryz.func27, Tryz.ntmps27
  go_upto_region 1 with fail
  generalize W.alloc (.cells #[.string b.s, .int .i8 b.t.k, .int .i64 b.t.n, .string b.t.s, .string b.t.t, sv] 48) = w1 at a0 a1 a2 a3 a4 a5 hb cN cC ⊢
  have hmv : ∀ W' : World, Below w1.heap.size w1 W' → W'.cell? ⟨W.heap.size, 1, none⟩ = some (.int .i8 b.t.k) ∧ W'.cell? ⟨W.heap.size, 2, none⟩ = some (.int .i64 b.t.n) ∧ W'.cell? ⟨W.heap.size, 3, none⟩ = some (.string b.t.s) ∧ W'.cell? ⟨W.heap.size, 4, none⟩ = some (.string b.t.t) ∧ W'.cell? ⟨W.heap.size, 5, none⟩ = some sv := fun W' hb =>
    ⟨(hb.cell (p := ⟨W.heap.size, 1, none⟩) (cell_block a0)).trans a1, (hb.cell (p := ⟨W.heap.size, 2, none⟩) (cell_block a0)).trans a2, (hb.cell (p := ⟨W.heap.size, 3, none⟩) (cell_block a0)).trans a3, (hb.cell (p := ⟨W.heap.size, 4, none⟩) (cell_block a0)).trans a4, (hb.cell (p := ⟨W.heap.size, 5, none⟩) (cell_block a0)).trans a5⟩
  generalize chkT b.t = q at cC HB
  generalize nameA b.s = nm at cN HB
  cases hu : (b.s.toList == [95])
  · have HB := Lib.hid (HB.out.trans (show (undB b.s || (!nm || !(q == 0))) = (!nm || !(q == 0)) by unfold undB; rw [hu]; rfl))
    cases nm
    · clear cC hmv
      go_wp2_with (go_at_call 28; refine cN.mono ?_; rintro e w5 ⟨rfl, hb5⟩)
      go_ret
      exact ⟨by rw [HB.out]; rfl, hb.trans (hb5.mono hb.size)⟩
    · go_wp2_with (first
        | (go_at_call 28; refine cN.mono ?_; rintro e w5 ⟨rfl, hb5⟩; obtain ⟨c1, c2, c3, c4, c5⟩ := hmv _ hb5)
        | (go_at_call 29; refine (cC _ hb5).mono ?_; rintro e w6 ⟨rfl, hb6⟩; have hB6 := hb5.trans (hb6.mono hb5.size)))
      all_goals
        go_ret
        exact ⟨by rw [HB.out]; rfl, hb.trans (hB6.mono hb.size)⟩
  · have HB := Lib.hid (HB.out.trans (show (undB b.s || (!nm || !(q == 0))) = true by unfold undB; rw [hu]; rfl))
    clear cC hmv cN
    go_wp2_with fail
    go_ret
    exact ⟨by rw [HB.out]; rfl, hb⟩
end Go.Proofs.YtjnmdbfijdnaiaaGreatDoor
