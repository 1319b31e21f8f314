/-
  errors.as at two errors joined, a number and a refusal: it finds the refusal. Conditions: the target and the errors lie.
-/
import Derived.Test.YtfabiccdolpemaaGreatDoorAr2
namespace Go.Proofs.YtfabiccdolpemaaGreatDoor.AsR
open Go.RowKit Go.Extern.Stop Go.Stop Go.Extern
set_option maxHeartbeats 4000000 in
set_option maxRecDepth 100000 in
theorem as2_join (bj oj bs os c : Nat) (k : Int) (a : Addr) (b o n : Nat) (x : Value) (w : World) (hn : w.cell? ⟨n, 0, none⟩ = some (.pointer (some ⟨b, o, none⟩))) (old : Value) (hc : w.cell? ⟨b, o, none⟩ = some old) (hz : w.frozen? ⟨b, o, none⟩ = false)
    (h0 : w.cell? ⟨bj, oj, none⟩ = some (.slice (some ⟨bs, os, none⟩) 2 c)) (h1 : w.cell? ⟨bs, os, none⟩ = some (.iface 22 (.int .i64 k))) (h2 : w.cell? ⟨bs, os + 1, none⟩ = some (.iface 30 (.pointer (some a)))) :
    Calls Tryz.prog 17 #[.iface 68 (.pointer (some ⟨bj, oj, none⟩)), x, .agg #[hdl 32, .pointer (some ⟨n, 0, none⟩), .int .u64 150], rty 30] w fun e w' => e = .returned (.bool true) ∧ ∃ X Y Z W, w' = ((((w.setCell ⟨b, o, none⟩ (.pointer (some a))).alloc X).alloc Y).alloc Z).alloc W := by
  have hT := @run_callFunc_extern Tryz.prog 18 _ Extern.ReflectliteType.typeOf Tryz.func18 (by kernel_rfl) (by kernel_rfl) (by kernel_rfl) (by kernel_rfl)
  have h257 := @run_callFunc_extern Tryz.prog 317 _ (Extern.ReflectliteType.relation "AssignableTo" Extern.ReflectliteType.assignableTo) Tryz.func317 (by kernel_rfl) (by kernel_rfl) (by kernel_rfl) (by kernel_rfl)
  have t1 := asTypeOfJ
  have t2 := asAssM
  have t3 := asAssJ
  have t4 := noAsJ
  have t5 := noUnwrapJ
  have t6 := hasUnwrapsJ
  have t7 := methodUnwrapsJ
  have hnl := cell_block' hn
  have hbl := cell_block' hc
  have l0 := cell_block' h0
  have l1 := cell_block' h1
  have P0 : ∀ X, (w.alloc X).cell? ⟨bj, oj, none⟩ = some (.slice (some ⟨bs, os, none⟩) 2 c) := fun X => by rw [cell_alloc_lt l0, h0]
  have P1 : ∀ X, (w.alloc X).cell? ⟨bs, os, none⟩ = some (.iface 22 (.int .i64 k)) := fun X => by rw [cell_alloc_lt l1, h1]
  have P2 : ∀ X Y, ((w.alloc X).alloc Y).cell? ⟨bs, os + 1, none⟩ = some (.iface 30 (.pointer (some a))) := fun X Y => by rw [cell_alloc_lt (by rw [alloc_size]; omega), cell_alloc_lt l1, h2]
  have C1 := fun X => as2_errno k x n (w.alloc X)
  have C2 := fun X Y => as2_any a b o n x ((w.alloc X).alloc Y) (by rw [cell_alloc_lt (by rw [alloc_size]; omega), cell_alloc_lt hnl, hn]) old (by rw [cell_alloc_lt (by rw [alloc_size]; omega), cell_alloc_lt hbl, hc]) (by rw [frozen_alloc_lt (by rw [alloc_size]; omega), frozen_alloc_lt hbl, hz])
  go_enter Tryz.func17, Tryz.ntmps17
  go_wp2
  refine wp_loop_rounds 1 ?_
  rw [rounds_succ]
  go_wp2
  refine wp_loop_rounds 2 ?_
  rw [rounds_succ]
  go_wp2_with (go_at_call 17; refine (C1 _).mono ?_; rintro e w1 ⟨rfl, X, rfl⟩)
  rw [rounds_succ]
  go_wp2_with (go_at_call 17; refine (C2 _ _).mono ?_; rintro e w1 ⟨rfl, X, Y, rfl⟩)
  go_ret
  exact ⟨rfl, _, _, _, _, rfl⟩
end Go.Proofs.YtfabiccdolpemaaGreatDoor.AsR
