/-
  errors.As at an error that is what is asked for, at once. Conditions: the package-level variable errors.errorType is laid; the target lies.
-/
import Derived.Test.YtdjafnjmkkagjaaGreatDoorAs1
import Derived.StillTailTactics
import Derived.Deep.RegionWith
namespace Go.Proofs.YtdjafnjmkkagjaaGreatDoor
open Go.RowKit Go.Extern.Stop Go.Stop Go.Extern
set_option maxHeartbeats 4000000 in
set_option maxRecDepth 100000 in
theorem as_any (a : Addr) (b o : Nat) (w : World) (hE : w.cell? ⟨0, 0, none⟩ = some (rty 83)) (old : Value) (hc : w.cell? ⟨b, o, none⟩ = some old) (hz : w.frozen? ⟨b, o, none⟩ = false) :
    Calls Tryz.prog 104 #[.iface 149 (.pointer (some a)), .iface 151 (.pointer (some ⟨b, o, none⟩))] w fun e w' => e = .returned (.bool true) ∧ ∃ X Y Z U, w' = ((((w.setCell ⟨b, o, none⟩ (.pointer (some a))).alloc X).alloc Y).alloc Z).alloc U := by
  go_enter Tryz.func104, Tryz.ntmps104
  have h170 := @run_callFunc_extern Tryz.prog 170 _ (fun args => Extern.ReflectliteValue.unpack (args.getD 0 (.tuple #[]))) Tryz.func170 (by kernel_rfl) (by kernel_rfl) (by kernel_rfl) (by kernel_rfl)
  have h171 := @run_callFunc_extern Tryz.prog 171 _ (Extern.ReflectliteValue.methodAny (Extern.ReflectliteValue.valueError "reflectlite.Value.Type" 0) fun t _ _ _ => Extern.ReflectliteType.toType t) Tryz.func171 (by kernel_rfl) (by kernel_rfl) (by kernel_rfl) (by kernel_rfl)
  have hK := @run_callFunc_extern Tryz.prog 244 _ (Extern.ReflectliteType.abiMethod fun t => do pure (.int .u8 (← Extern.Rtype.kind t))) Tryz.func244 (by kernel_rfl) (by kernel_rfl) (by kernel_rfl) (by kernel_rfl)
  have h172 := @run_callFunc_extern Tryz.prog 172 _ (Extern.ReflectliteValue.method (Extern.ReflectliteValue.valueError "reflectlite.Value.IsNil" 0) Extern.ReflectliteValue.isNil) Tryz.func172 (by kernel_rfl) (by kernel_rfl) (by kernel_rfl) (by kernel_rfl)
  have h259 := @run_callFunc_extern Tryz.prog 259 _ (Extern.ReflectliteType.method Extern.ReflectliteType.elem) Tryz.func259 (by kernel_rfl) (by kernel_rfl) (by kernel_rfl) (by kernel_rfl)
  have h260 := @run_callFunc_extern Tryz.prog 260 _ (Extern.ReflectliteType.relation "Implements" Extern.ReflectliteType.implements_) Tryz.func260 (by kernel_rfl) (by kernel_rfl) (by kernel_rfl) (by kernel_rfl)
  have t1 := asValueOf 151 (.inr rfl)
  have t2 := asType
  have t3 := asKindM
  have t4 := asKind2
  have t5 := asKind1
  have t6 := asElemM
  have t7 := asElem
  have t8 := asImplM
  have t9 := asImpl
  have hlt : 0 < w.heap.size := cell_block' hE
  have e2 : ((w.alloc (Obj.cells #[Value.pointer (some ⟨b, o, none⟩)] 151)).alloc (Obj.cells #[hdl 151, Value.pointer (some ⟨w.heap.size, 0, none⟩), Value.int IntKind.u64 150] 197)).cell? ⟨0, 0, none⟩ = some (rty 83) := by
    rw [cell_alloc_lt (by show 0 < (w.heap.push _).size; simp), cell_alloc_lt hlt, hE]
  have t10 := asIsNil w.heap.size ⟨b, o, none⟩
  have hbl := cell_block' hc
  have hcall := as2_any a b o w.heap.size (.iface 151 (.pointer (some ⟨b, o, none⟩))) ((w.alloc (Obj.cells #[Value.pointer (some ⟨b, o, none⟩)] 151)).alloc (Obj.cells #[hdl 151, Value.pointer (some ⟨w.heap.size, 0, none⟩), Value.int IntKind.u64 150] 197)) (by rw [cell_alloc_lt (by rw [alloc_size]; omega), cell_alloc_new]; rfl) old (by rw [cell_alloc_lt (by rw [alloc_size]; omega), cell_alloc_lt hbl, hc]) (by rw [frozen_alloc_lt (by rw [alloc_size]; omega), frozen_alloc_lt hbl, hz])
  go_wp2_with (go_at_call 173; refine hcall.mono ?_; rintro e w1 ⟨rfl, X, Y, rfl⟩)
  go_ret
  exact ⟨rfl, _, _, _, _, rfl⟩
theorem as_nil (a : Addr) (w : World) : Calls Tryz.prog 104 #[.nilIface, .iface 151 (.pointer (some a))] w fun e w' => e = .returned (.bool false) ∧ w' = w := by
  go_enter Tryz.func104, Tryz.ntmps104
  go_wp2
  go_ret
  exact ⟨rfl, rfl⟩
end Go.Proofs.YtdjafnjmkkagjaaGreatDoor
