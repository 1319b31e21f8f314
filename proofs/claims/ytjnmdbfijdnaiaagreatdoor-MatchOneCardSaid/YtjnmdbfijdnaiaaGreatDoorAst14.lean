/-
  ast.asks where no rule stands; ast.pattern, Pattern. Conditions: the tree lies as 'TrV' says.
-/
import Derived.Test.YtjnmdbfijdnaiaaGreatDoorAst13
namespace Go.Proofs.YtjnmdbfijdnaiaaGreatDoor
open Go.RowKit

theorem bounds_i8 {k : Int} (h : (Lit.int .i8 k).wf = true) : -128 ≤ k ∧ k ≤ 127 := by
  simp [Lit.wf, IntKind.min, IntKind.max, IntKind.signed, IntKind.bits] at h
  omega

set_option maxHeartbeats 2000000 in
set_option maxRecDepth 100000 in
theorem asksOut_any {w : World} {b g o : Nat} {x : Tr} {sv : Value} (h : NodeAt w g o x sv) (hk : x.k < 0 ∨ 22 ≤ x.k) (hwf : NodeWf x) :
    Calls Tryz.prog 78 #[.pointer (some ⟨b, 0, none⟩), .pointer (some ⟨g, o, none⟩)] w fun e w' => e = .returned (.bool false) ∧ Below w.heap.size w w' := by
  have h0 := h.k
  have hkw := hwf.k
  clear h hwf
  generalize x.k = k at *
  rcases hk with hk | hk
  · have d0 : decide ((0 : Int) ≤ k) = false := by simpa using hk
    go_enter Tryz.func78, Tryz.ntmps78
    go_wp2_with fail
    go_quiet (fail)
    go_wp2
    go_ret
    exact ⟨by simp, below_drewN (Below.refl _ _) nq⟩
  · have d0 : decide ((0 : Int) ≤ k) = true := by simp; omega
    have d1 : decide (k < (22 : Int)) = false := by simpa using hk
    have hw : IntKind.i64.wrap k = k := by rw [IntKind.wrap_i64]; have := bounds_i8 hkw; omega
    go_enter Tryz.func78, Tryz.ntmps78
    go_wp2_with fail
    go_quiet (fail)
    go_wp2
    go_ret
    exact ⟨by simp, below_drewN (Below.refl _ _) nq⟩
set_option maxHeartbeats 2000000 in
set_option maxRecDepth 100000 in
theorem asksNil_any {w : World} {b g o : Nat} {x : Tr} {sv : Value} (h : NodeAt w g o x sv) (hk0 : 0 ≤ x.k) (hk1 : x.k < 22) (hc : w.cell? ⟨b, x.k.toNat, none⟩ = some .nilFunc) :
    Calls Tryz.prog 78 #[.pointer (some ⟨b, 0, none⟩), .pointer (some ⟨g, o, none⟩)] w fun e w' => e = .returned (.bool false) ∧ Below w.heap.size w w' := by
  have h0 := h.k
  clear h
  generalize x.k = k at *
  have hrn := rule_none
  have d0 : decide ((0 : Int) ≤ k) = true := by simp; omega
  have d1 : decide (k < (22 : Int)) = true := by simp; omega
  have hw : IntKind.i64.wrap k = k := by rw [IntKind.wrap_i64]; omega
  go_enter Tryz.func78, Tryz.ntmps78
  go_wp2_with fail
  go_quiet (fail)
  go_wp2
  go_ret
  exact ⟨by simp, below_drewN (Below.refl _ _) nq⟩
end Go.Proofs.YtjnmdbfijdnaiaaGreatDoor
