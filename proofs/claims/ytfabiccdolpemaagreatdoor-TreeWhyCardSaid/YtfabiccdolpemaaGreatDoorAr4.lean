/-
  errors.As at two errors joined, a number and a refusal: it finds the refusal. Conditions: errors.errorType is laid; the target and the errors lie.
-/
import Derived.Test.YtfabiccdolpemaaGreatDoorAr3
namespace Go.Proofs.YtfabiccdolpemaaGreatDoor.AsR
open Go.RowKit Go.Extern.Stop Go.Stop Go.Extern
set_option maxHeartbeats 4000000 in
set_option maxRecDepth 100000 in
theorem as_join (bj oj bs os c : Nat) (k : Int) (a : Addr) (b o : Nat) (w : World) (hE : w.cell? ⟨0, 0, none⟩ = some (rty 26)) (old : Value) (hc : w.cell? ⟨b, o, none⟩ = some old) (hz : w.frozen? ⟨b, o, none⟩ = false)
    (h0 : w.cell? ⟨bj, oj, none⟩ = some (.slice (some ⟨bs, os, none⟩) 2 c)) (h1 : w.cell? ⟨bs, os, none⟩ = some (.iface 22 (.int .i64 k))) (h2 : w.cell? ⟨bs, os + 1, none⟩ = some (.iface 30 (.pointer (some a)))) :
    Calls Tryz.prog 7 #[.iface 68 (.pointer (some ⟨bj, oj, none⟩)), .iface 32 (.pointer (some ⟨b, o, none⟩))] w fun e w' => e = .returned (.bool true) ∧ ∃ X Y Z U V R, w' = ((((((w.setCell ⟨b, o, none⟩ (.pointer (some a))).alloc X).alloc Y).alloc Z).alloc U).alloc V).alloc R := by
  go_enter Tryz.func7, Tryz.ntmps7
  have h170 := @run_callFunc_extern Tryz.prog 14 _ (fun args => Extern.ReflectliteValue.unpack (args.getD 0 (.tuple #[]))) Tryz.func14 (by kernel_rfl) (by kernel_rfl) (by kernel_rfl) (by kernel_rfl)
  have h171 := @run_callFunc_extern Tryz.prog 15 _ (Extern.ReflectliteValue.methodAny (Extern.ReflectliteValue.valueError "reflectlite.Value.Type" 0) fun t _ _ _ => Extern.ReflectliteType.toType t) Tryz.func15 (by kernel_rfl) (by kernel_rfl) (by kernel_rfl) (by kernel_rfl)
  have hK := @run_callFunc_extern Tryz.prog 304 _ (Extern.ReflectliteType.abiMethod fun t => do pure (.int .u8 (← Extern.Rtype.kind t))) Tryz.func304 (by kernel_rfl) (by kernel_rfl) (by kernel_rfl) (by kernel_rfl)
  have h172 := @run_callFunc_extern Tryz.prog 16 _ (Extern.ReflectliteValue.method (Extern.ReflectliteValue.valueError "reflectlite.Value.IsNil" 0) Extern.ReflectliteValue.isNil) Tryz.func16 (by kernel_rfl) (by kernel_rfl) (by kernel_rfl) (by kernel_rfl)
  have h259 := @run_callFunc_extern Tryz.prog 319 _ (Extern.ReflectliteType.method Extern.ReflectliteType.elem) Tryz.func319 (by kernel_rfl) (by kernel_rfl) (by kernel_rfl) (by kernel_rfl)
  have h260 := @run_callFunc_extern Tryz.prog 320 _ (Extern.ReflectliteType.relation "Implements" Extern.ReflectliteType.implements_) Tryz.func320 (by kernel_rfl) (by kernel_rfl) (by kernel_rfl) (by kernel_rfl)
  have t1 := asValueOf 32 (.inr rfl)
  have t2 := asType
  have t3 := asKindM
  have t4 := asKind2
  have t5 := asKind1
  have t6 := asElemM
  have t7 := asElem
  have t8 := asImplM
  have t9 := asImpl
  have hlt : 0 < w.heap.size := cell_block' hE
  have e2 : ((w.alloc (Obj.cells #[Value.pointer (some ⟨b, o, none⟩)] 32)).alloc (Obj.cells #[hdl 32, Value.pointer (some ⟨w.heap.size, 0, none⟩), Value.int IntKind.u64 150] 58)).cell? ⟨0, 0, none⟩ = some (rty 26) := by
    rw [cell_alloc_lt (by show 0 < (w.heap.push _).size; simp), cell_alloc_lt hlt, hE]
  have t10 := asIsNil w.heap.size ⟨b, o, none⟩
  have hbl := cell_block' hc
  have l0 := cell_block' h0
  have l1 := cell_block' h1
  have hcall := as2_join bj oj bs os c k a b o w.heap.size (.iface 32 (.pointer (some ⟨b, o, none⟩))) ((w.alloc (Obj.cells #[Value.pointer (some ⟨b, o, none⟩)] 32)).alloc (Obj.cells #[hdl 32, Value.pointer (some ⟨w.heap.size, 0, none⟩), Value.int IntKind.u64 150] 58)) (by rw [cell_alloc_lt (by rw [alloc_size]; omega), cell_alloc_new]; rfl) old (by rw [cell_alloc_lt (by rw [alloc_size]; omega), cell_alloc_lt hbl, hc]) (by rw [frozen_alloc_lt (by rw [alloc_size]; omega), frozen_alloc_lt hbl, hz]) (by rw [cell_alloc_lt (by rw [alloc_size]; omega), cell_alloc_lt l0, h0]) (by rw [cell_alloc_lt (by rw [alloc_size]; omega), cell_alloc_lt l1, h1]) (by rw [cell_alloc_lt (by rw [alloc_size]; omega), cell_alloc_lt l1, h2])
  go_wp2_with (go_at_call 17; refine hcall.mono ?_; rintro e w1 ⟨rfl, X, Y, Z, U, rfl⟩)
  go_ret
  exact ⟨rfl, _, _, _, _, _, _, rfl⟩
end Go.Proofs.YtfabiccdolpemaaGreatDoor.AsR
