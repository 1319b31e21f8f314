/-
  errors.Is of two joined error numbers, and of none. Conditions: the two lie as 'JoinAt' says.
-/
import Derived.Test.YtlhobpknflobgaaGreatDoorGv4
import Derived.LaidEql
import Derived.Stop.Asserts
import Derived.RowKitTokens
namespace Go.Proofs.YtlhobpknflobgaaGreatDoor
open Go.RowKit Go.Extern.Stop Go.Stop Go.Extern

theorem isTypeOf (v : Value) (w : World) : (Extern.ReflectliteType.typeOf #[.iface 32 v]).run Tryz.prog w = .ok (.iface 161 (.agg #[.pointer (some ⟨1, 32, none⟩)])) w := by kernel_rfl
theorem isComparable (w : World) : ((Extern.ReflectliteType.method fun t => do Go.Extern.Rtype.noPackHeld "Comparable" t; (fun a => Value.bool a.comparable) <$> typeInfo t) #[.agg #[.pointer (some ⟨1, 32, none⟩)]]).run Tryz.prog w = .ok (.bool true) w := by kernel_rfl
theorem isMethodComparable (v : Value) (w : World) : (Go.method 351 161 v "Comparable").run Tryz.prog w = .ok (241, v) w := by kernel_rfl
theorem isNoIs (v : Value) (xT : TypeId) (w : World) : (Instr.typeAssert (.iface 195 v) xT 163 true).run Tryz.prog w = .ok (.tuple #[.nilIface, .bool false]) w := run_typeAssert_lacksB Tryz.underlying163 (by kernel_rfl) (by kernel_rfl) v xT w
theorem isNoUnwrap (v : Value) (xT : TypeId) (w : World) : (Instr.typeAssert (.iface 195 v) xT 166 true).run Tryz.prog w = .ok (.tuple #[.nilIface, .bool false]) w := run_typeAssert_lacksB Tryz.underlying166 (by kernel_rfl) (by kernel_rfl) v xT w
theorem isUnwraps (v : Value) (xT : TypeId) (w : World) : (Instr.typeAssert (.iface 195 v) xT 168 true).run Tryz.prog w = .ok (.tuple #[.iface 195 v, .bool true]) w := run_typeAssert_hasB Tryz.underlying168 (by kernel_rfl) v xT w
theorem isMethodUnwrap (v : Value) (w : World) : (Go.method 351 195 v "Unwrap").run Tryz.prog w = .ok (251, v) w := by kernel_rfl
theorem isEqE (w : World) : (binOp BinOp.eql 85 (.iface 32 (.int .i64 93)) (.iface 32 (.int .i64 93))).run Tryz.prog w = .ok (.bool true) w := by kernel_rfl
theorem isEqJ (v : Value) (w : World) : (binOp BinOp.eql 85 (.iface 195 v) (.iface 32 (.int .i64 93))).run Tryz.prog w = .ok (.bool false) w := run_eql_iface_types (P := Tryz.prog) 195 32 v (.int .i64 93) Tryz.underlying85 (by decide) w

set_option maxHeartbeats 2000000 in
theorem unwrap_any {w : World} {bj : Nat} {v : Value} (h : w.cell? ⟨bj, 0, none⟩ = some v) :
    Calls Tryz.prog 251 #[.pointer (some ⟨bj, 0, none⟩)] w fun e w' => e = .returned v ∧ w' = w := by
  go_enter Tryz.func251, Tryz.ntmps251
  go_wp2
  go_ret
  exact ⟨rfl, rfl⟩

set_option maxHeartbeats 4000000 in
set_option maxRecDepth 100000 in
theorem isE_any (w : World) : Calls Tryz.prog 115 #[erV 93, erV 93, .bool true] w fun e w' => e = .returned (.bool true) ∧ w' = w := by
  have hE := isEqE
  change Calls _ _ #[.iface 32 (.int .i64 93), .iface 32 (.int .i64 93), .bool true] _ _
  go_enter Tryz.func115, Tryz.ntmps115
  go_wp2
  refine wp_loop_rounds 1 ?_
  rw [rounds_succ]
  go_wp2
  go_ret
  exact ⟨rfl, rfl⟩

set_option maxHeartbeats 4000000 in
set_option maxRecDepth 100000 in
theorem isJ_any {w : World} {v : Value} {k : Int} (h : JoinAt w v 93 k) : Calls Tryz.prog 115 #[v, erV 93, .bool true] w fun e w' => e = .returned (.bool true) ∧ w' = w := by
  obtain ⟨bj, g, c, rfl, h1, h2, h3⟩ := h
  have cU := unwrap_any h1
  have cE := isE_any w
  have hJ := isEqJ
  have nI := isNoIs
  have nU := isNoUnwrap
  have hU := isUnwraps
  have mU := isMethodUnwrap
  change Calls _ _ #[_, .iface 32 (.int .i64 93), .bool true] _ _
  go_enter Tryz.func115, Tryz.ntmps115
  go_wp2
  refine wp_loop_rounds 1 ?_
  rw [rounds_succ]
  go_wp2_with (go_at_call 251; refine cU.mono ?_; rintro e w' ⟨rfl, rfl⟩)
  refine wp_loop_rounds 1 ?_
  rw [rounds_succ]
  go_wp2_with (go_at_call 115; refine cE.mono ?_; rintro e w' ⟨rfl, rfl⟩)
  go_ret
  exact ⟨rfl, rfl⟩

set_option maxHeartbeats 4000000 in
set_option maxRecDepth 100000 in
theorem isTrue_any {w : World} {v : Value} {k : Int} (h : JoinAt w v 93 k) : Calls Tryz.prog 62 #[v, erV 93] w fun e w' => e = .returned (.bool true) ∧ w' = w := by
  have cI := isJ_any h
  obtain ⟨bj, g, c, rfl, h1, h2, h3⟩ := h
  have h8 := @run_callFunc_extern Tryz.prog 114 _ Extern.ReflectliteType.typeOf Tryz.func114 (by kernel_rfl) (by kernel_rfl) (by kernel_rfl) (by kernel_rfl)
  have h32 := @run_callFunc_extern Tryz.prog 241 _ (Extern.ReflectliteType.method fun t => do Go.Extern.Rtype.noPackHeld "Comparable" t; pure (.bool (← typeInfo t).comparable)) Tryz.func241 (by kernel_rfl) (by kernel_rfl) (by kernel_rfl) (by kernel_rfl)
  have tT := isTypeOf
  have cT := isComparable
  have mR := isMethodComparable
  change Calls _ _ #[_, .iface 32 (.int .i64 93)] _ _
  go_enter Tryz.func62, Tryz.ntmps62
  go_wp2_with (go_at_call 115; refine cI.mono ?_; rintro e w' ⟨rfl, rfl⟩)
  go_ret
  exact ⟨rfl, rfl⟩

set_option maxHeartbeats 4000000 in
set_option maxRecDepth 100000 in
theorem isFalse_any (w : World) : Calls Tryz.prog 62 #[.nilIface, erV 93] w fun e w' => e = .returned (.bool false) ∧ w' = w := by
  have hn := run_eql_iface_nil_left (P := Tryz.prog) w 32 (.int .i64 93) Tryz.underlying85
  change Calls _ _ #[_, .iface 32 (.int .i64 93)] _ _
  go_enter Tryz.func62, Tryz.ntmps62
  go_wp2
  go_ret
  exact ⟨rfl, rfl⟩
end Go.Proofs.YtlhobpknflobgaaGreatDoor
