/-
  errors.As for a *api.Refused: at a number (no), at two errors joined, a number and a refusal (yes). Conditions: errors.errorType is laid; the target and the errors lie.
-/
import Derived.Test.YtfabiccdolpemaaGreatDoorAtR
import Derived.Stop.Asserts
import Derived.StillTailTactics
import Derived.Deep.RegionWith
namespace Go.Proofs.YtfabiccdolpemaaGreatDoor.AsR
open Go.RowKit Go.Extern.Stop Go.Stop Go.Extern
theorem asTypeOfN (v : Value) (w : World) : (Extern.ReflectliteType.typeOf #[.iface 22 v]).run Tryz.prog w = .ok (rty 22) w := by kernel_rfl
theorem asAssN (w : World) : ((Extern.ReflectliteType.relation "AssignableTo" Extern.ReflectliteType.assignableTo) #[.agg #[hdl 22], rty 30]).run Tryz.prog w = .ok (.bool false) w := by kernel_rfl
theorem asTypeOfJ (v : Value) (w : World) : (Extern.ReflectliteType.typeOf #[.iface 68 v]).run Tryz.prog w = .ok (rty 68) w := by kernel_rfl
theorem asAssJ (w : World) : ((Extern.ReflectliteType.relation "AssignableTo" Extern.ReflectliteType.assignableTo) #[.agg #[hdl 68], rty 30]).run Tryz.prog w = .ok (.bool false) w := by kernel_rfl
theorem noAsN (v : Value) (xT : TypeId) (w : World) : (Instr.typeAssert (.iface 22 v) xT 92 true).run Tryz.prog w = .ok (.tuple #[.nilIface, .bool false]) w := run_typeAssert_lacksB Tryz.underlying92 (by kernel_rfl) (by kernel_rfl) v xT w
theorem noUnwrapN (v : Value) (xT : TypeId) (w : World) : (Instr.typeAssert (.iface 22 v) xT 95 true).run Tryz.prog w = .ok (.tuple #[.nilIface, .bool false]) w := run_typeAssert_lacksB Tryz.underlying95 (by kernel_rfl) (by kernel_rfl) v xT w
theorem noUnwrapsN (v : Value) (xT : TypeId) (w : World) : (Instr.typeAssert (.iface 22 v) xT 97 true).run Tryz.prog w = .ok (.tuple #[.nilIface, .bool false]) w := run_typeAssert_lacksB Tryz.underlying97 (by kernel_rfl) (by kernel_rfl) v xT w
theorem noAsJ (v : Value) (xT : TypeId) (w : World) : (Instr.typeAssert (.iface 68 v) xT 92 true).run Tryz.prog w = .ok (.tuple #[.nilIface, .bool false]) w := run_typeAssert_lacksB Tryz.underlying92 (by kernel_rfl) (by kernel_rfl) v xT w
theorem noUnwrapJ (v : Value) (xT : TypeId) (w : World) : (Instr.typeAssert (.iface 68 v) xT 95 true).run Tryz.prog w = .ok (.tuple #[.nilIface, .bool false]) w := run_typeAssert_lacksB Tryz.underlying95 (by kernel_rfl) (by kernel_rfl) v xT w
theorem hasUnwrapsJ (v : Value) (xT : TypeId) (w : World) : (Instr.typeAssert (.iface 68 v) xT 97 true).run Tryz.prog w = .ok (.tuple #[.iface 68 v, .bool true]) w := run_typeAssert_hasB Tryz.underlying97 (by kernel_rfl) v xT w
theorem methodUnwrapsJ (v : Value) (w : World) : (Go.method 497 68 v "Unwrap").run Tryz.prog w = .ok (314, v) w := by kernel_rfl
set_option maxHeartbeats 4000000 in
set_option maxRecDepth 100000 in
theorem as2_errno (k : Int) (x : Value) (n : Nat) (w : World) :
    Calls Tryz.prog 17 #[.iface 22 (.int .i64 k), x, .agg #[hdl 32, .pointer (some ⟨n, 0, none⟩), .int .u64 150], rty 30] w fun e w' => e = .returned (.bool false) ∧ ∃ X, w' = w.alloc X := by
  have hT := @run_callFunc_extern Tryz.prog 18 _ Extern.ReflectliteType.typeOf Tryz.func18 (by kernel_rfl) (by kernel_rfl) (by kernel_rfl) (by kernel_rfl)
  have h257 := @run_callFunc_extern Tryz.prog 317 _ (Extern.ReflectliteType.relation "AssignableTo" Extern.ReflectliteType.assignableTo) Tryz.func317 (by kernel_rfl) (by kernel_rfl) (by kernel_rfl) (by kernel_rfl)
  have t1 := asTypeOfN
  have t2 := asAssM
  have t3 := asAssN
  have t4 := noAsN
  have t5 := noUnwrapN
  have t6 := noUnwrapsN
  go_enter Tryz.func17, Tryz.ntmps17
  go_wp2
  refine wp_loop_rounds 1 ?_
  rw [rounds_succ]
  go_wp2
  go_ret
  exact ⟨rfl, _, rfl⟩
set_option maxHeartbeats 4000000 in
set_option maxRecDepth 100000 in
theorem as_errno (k : Int) (b o : Nat) (w : World) (hE : w.cell? ⟨0, 0, none⟩ = some (rty 26)) (old : Value) (hc : w.cell? ⟨b, o, none⟩ = some old) :
    Calls Tryz.prog 7 #[.iface 22 (.int .i64 k), .iface 32 (.pointer (some ⟨b, o, none⟩))] w fun e w' => e = .returned (.bool false) ∧ ∃ X Y Z, w' = ((w.alloc X).alloc Y).alloc Z := by
  go_enter Tryz.func7, Tryz.ntmps7
  have h170 := @run_callFunc_extern Tryz.prog 14 _ (fun args => Extern.ReflectliteValue.unpack (args.getD 0 (.tuple #[]))) Tryz.func14 (by kernel_rfl) (by kernel_rfl) (by kernel_rfl) (by kernel_rfl)
  have h171 := @run_callFunc_extern Tryz.prog 15 _ (Extern.ReflectliteValue.methodAny (Extern.ReflectliteValue.valueError "reflectlite.Value.Type" 0) fun t _ _ _ => Extern.ReflectliteType.toType t) Tryz.func15 (by kernel_rfl) (by kernel_rfl) (by kernel_rfl) (by kernel_rfl)
  have hK := @run_callFunc_extern Tryz.prog 304 _ (Extern.ReflectliteType.abiMethod fun t => do pure (.int .u8 (← Extern.Rtype.kind t))) Tryz.func304 (by kernel_rfl) (by kernel_rfl) (by kernel_rfl) (by kernel_rfl)
  have h172 := @run_callFunc_extern Tryz.prog 16 _ (Extern.ReflectliteValue.method (Extern.ReflectliteValue.valueError "reflectlite.Value.IsNil" 0) Extern.ReflectliteValue.isNil) Tryz.func16 (by kernel_rfl) (by kernel_rfl) (by kernel_rfl) (by kernel_rfl)
  have h259 := @run_callFunc_extern Tryz.prog 319 _ (Extern.ReflectliteType.method Extern.ReflectliteType.elem) Tryz.func319 (by kernel_rfl) (by kernel_rfl) (by kernel_rfl) (by kernel_rfl)
  have h260 := @run_callFunc_extern Tryz.prog 320 _ (Extern.ReflectliteType.relation "Implements" Extern.ReflectliteType.implements_) Tryz.func320 (by kernel_rfl) (by kernel_rfl) (by kernel_rfl) (by kernel_rfl)
  have t1 := asValueOf 32 (.inr rfl)
  have t2 := asType
  have t3 := asKindM
  have t4 := asKind2
  have t5 := asKind1
  have t6 := asElemM
  have t7 := asElem
  have t8 := asImplM
  have t9 := asImpl
  have hlt : 0 < w.heap.size := cell_block' hE
  have e2 : ((w.alloc (Obj.cells #[Value.pointer (some ⟨b, o, none⟩)] 32)).alloc (Obj.cells #[hdl 32, Value.pointer (some ⟨w.heap.size, 0, none⟩), Value.int IntKind.u64 150] 58)).cell? ⟨0, 0, none⟩ = some (rty 26) := by
    rw [cell_alloc_lt (by show 0 < (w.heap.push _).size; simp), cell_alloc_lt hlt, hE]
  have t10 := asIsNil w.heap.size ⟨b, o, none⟩
  have hbl := cell_block' hc
  have hcall := as2_errno k (.iface 32 (.pointer (some ⟨b, o, none⟩))) w.heap.size ((w.alloc (Obj.cells #[Value.pointer (some ⟨b, o, none⟩)] 32)).alloc (Obj.cells #[hdl 32, Value.pointer (some ⟨w.heap.size, 0, none⟩), Value.int IntKind.u64 150] 58))
  go_wp2_with (go_at_call 17; refine hcall.mono ?_; rintro e w1 ⟨rfl, X, rfl⟩)
  go_ret
  exact ⟨rfl, _, _, _, rfl⟩
end Go.Proofs.YtfabiccdolpemaaGreatDoor.AsR
