/-
  errors.Is at a *api.Refused, asked for a number: it is the number that it holds. Condition: the error's number lies.
-/
import Derived.Test.YtfabiccdolpemaaGreatDoorChecked
import Derived.WalkKit
import Derived.LaidEql
import Derived.Stop.Asserts
import Derived.RowKitTokens
import Derived.KernelRfl
namespace Go.Proofs.YtfabiccdolpemaaGreatDoor.Eis
open Go.RowKit Go.Extern.Stop Go.Stop Go.Extern
theorem run_eql_iface_int {P : Program} (w : World) {ti tp : TypeId} {ms : Array (String × TypeId)} {i : TypeInfo} {k : IntKind}
    (hi : P.underlying ti = some (.interface ms)) (hp : P.underlying tp = some (.int k)) (hinfo : P.info? tp = some i) (hcomp : i.comparable = true) (m n : Int) :
    (binOp .eql ti (.iface tp (.int k m)) (.iface tp (.int k n))).run P w = .ok (.bool (decide (m = n))) w := by
  have h : ∀ d : Nat, (Op.equalIn (d + 2) ti (.iface tp (.int k m)) (.iface tp (.int k n))).run P w = .ok (decide (m = n)) w := fun d => by
    by_cases e : m = n <;> simp [Op.equalIn, run_underlying hi, run_underlying hp, typeInfo, hinfo, hcomp, e]
  simp only [binOp]
  simp [Op.equal, Op.maxDepth, h 9998]
abbrev hdl (t : Nat) : Value := .pointer (some ⟨7, t, none⟩)
abbrev rty (t : Nat) : Value := .iface 88 (.agg #[hdl t])
theorem isTypeOf (v : Value) (w : World) : (Extern.ReflectliteType.typeOf #[.iface 22 v]).run Tryz.prog w = .ok (rty 22) w := by kernel_rfl
theorem isComparable (w : World) : ((Extern.ReflectliteType.method fun t => do Extern.Rtype.noPackHeld "Comparable" t; (fun a => Value.bool a.comparable) <$> typeInfo t) #[.agg #[hdl 22]]).run Tryz.prog w = .ok (.bool true) w := by kernel_rfl
theorem isMethodComparable (v : Value) (w : World) : (Go.method 497 88 v "Comparable").run Tryz.prog w = .ok (318, v) w := by kernel_rfl
theorem isComp : (Tryz.prog.info? 22).map (·.comparable) = some true := by kernel_rfl
theorem noIsN (v : Value) (xT : TypeId) (w : World) : (Instr.typeAssert (.iface 22 v) xT 99 true).run Tryz.prog w = .ok (.tuple #[.nilIface, .bool false]) w := run_typeAssert_lacksB Tryz.underlying99 (by kernel_rfl) (by kernel_rfl) v xT w
theorem noUnwrapN (v : Value) (xT : TypeId) (w : World) : (Instr.typeAssert (.iface 22 v) xT 95 true).run Tryz.prog w = .ok (.tuple #[.nilIface, .bool false]) w := run_typeAssert_lacksB Tryz.underlying95 (by kernel_rfl) (by kernel_rfl) v xT w
theorem noUnwrapsN (v : Value) (xT : TypeId) (w : World) : (Instr.typeAssert (.iface 22 v) xT 97 true).run Tryz.prog w = .ok (.tuple #[.nilIface, .bool false]) w := run_typeAssert_lacksB Tryz.underlying97 (by kernel_rfl) (by kernel_rfl) v xT w
theorem noIsR (v : Value) (xT : TypeId) (w : World) : (Instr.typeAssert (.iface 30 v) xT 99 true).run Tryz.prog w = .ok (.tuple #[.nilIface, .bool false]) w := run_typeAssert_lacksB Tryz.underlying99 (by kernel_rfl) (by kernel_rfl) v xT w
theorem hasUnwrapR (v : Value) (xT : TypeId) (w : World) : (Instr.typeAssert (.iface 30 v) xT 95 true).run Tryz.prog w = .ok (.tuple #[.iface 30 v, .bool true]) w := run_typeAssert_hasB Tryz.underlying95 (by kernel_rfl) v xT w
theorem methodUnwrapR (v : Value) (w : World) : (Go.method 497 30 v "Unwrap").run Tryz.prog w = .ok (309, v) w := by kernel_rfl

theorem unwrap_ref (b o : Nat) (m : Int) (w : World) (h1 : w.cell? ⟨b, o + 1, none⟩ = some (.int .i64 m)) :
    Calls Tryz.prog 309 #[.pointer (some ⟨b, o, none⟩)] w fun e w' => e = .returned (.iface 22 (.int .i64 m)) ∧ w' = w := by
  go_enter Tryz.func309, Tryz.ntmps309
  go_wp2
  go_ret
  exact ⟨rfl, rfl⟩
set_option maxHeartbeats 4000000 in
set_option maxRecDepth 100000 in
/-- errors.Is at a refusal, asked for a number. -/
theorem is_ref (b o : Nat) (m n : Int) (w : World) (h1 : w.cell? ⟨b, o + 1, none⟩ = some (.int .i64 m)) :
    Calls Tryz.prog 10 #[.iface 30 (.pointer (some ⟨b, o, none⟩)), .iface 22 (.int .i64 n)] w fun e w' => e = .returned (.bool (decide (m = n))) ∧ w' = w := by
  obtain ⟨i, hi, hcmp⟩ := Option.map_eq_some_iff.1 isComp
  have h8 := @run_callFunc_extern Tryz.prog 18 _ Extern.ReflectliteType.typeOf Tryz.func18 (by kernel_rfl) (by kernel_rfl) (by kernel_rfl) (by kernel_rfl)
  have h32 := @run_callFunc_extern Tryz.prog 318 _ (Extern.ReflectliteType.method fun t => do Extern.Rtype.noPackHeld "Comparable" t; pure (.bool (← typeInfo t).comparable)) Tryz.func318 (by kernel_rfl) (by kernel_rfl) (by kernel_rfl) (by kernel_rfl)
  have tT := isTypeOf
  have cT := isComparable
  have mR := isMethodComparable
  have nE := noIsN
  have uE := noUnwrapN
  have vE := noUnwrapsN
  have nW := noIsR
  have uW := hasUnwrapR
  have mU := methodUnwrapR
  have heq := run_eql_iface_int (P := Tryz.prog) w Tryz.underlying26 Tryz.underlying22 hi hcmp m n
  have hty := run_eql_iface_types (P := Tryz.prog) 30 22 (.pointer (some ⟨b, o, none⟩)) (.int .i64 n) Tryz.underlying26 (by decide) w
  by_cases e : m = n
  · subst e
    rw [decide_eq_true rfl] at heq ⊢
    go_enter Tryz.func10, Tryz.ntmps10
    go_wp2
    refine wp_loop_rounds 2 ?_
    rw [rounds_succ]
    go_wp2_with (go_at_call 309; refine (unwrap_ref b o m w h1).mono ?_; rintro e2 w1 ⟨rfl, rfl⟩)
    rw [rounds_succ]
    go_wp2
    go_ret
    exact ⟨rfl, rfl⟩
  · rw [decide_eq_false e] at heq ⊢
    go_enter Tryz.func10, Tryz.ntmps10
    go_wp2
    refine wp_loop_rounds 2 ?_
    rw [rounds_succ]
    go_wp2_with (go_at_call 309; refine (unwrap_ref b o m w h1).mono ?_; rintro e2 w1 ⟨rfl, rfl⟩)
    rw [rounds_succ]
    go_wp2
    go_ret
    exact ⟨rfl, rfl⟩
end Go.Proofs.YtfabiccdolpemaaGreatDoor.Eis
