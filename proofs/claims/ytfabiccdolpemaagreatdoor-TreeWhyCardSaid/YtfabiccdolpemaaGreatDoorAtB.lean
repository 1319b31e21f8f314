/-
  errors.As at an error that is what is asked for, at once: *rules.broken. Conditions: the package-level variable errors.errorType is laid; the target lies.
-/
import Derived.Test.YtfabiccdolpemaaGreatDoorChecked
import Derived.WalkKit
import Derived.LaidEql
import Derived.Stop.Asserts
import Derived.RowKitTokens
import Derived.KernelRfl
import Derived.StillTailTactics
import Derived.Deep.RegionWith
namespace Go.Proofs.YtfabiccdolpemaaGreatDoor.AsB
open Go.RowKit Go.Extern.Stop Go.Stop Go.Extern

/-- A type's handle. -/
abbrev hdl (t : Nat) : Value := .pointer (some ⟨7, t, none⟩)
abbrev rty (t : Nat) : Value := .iface 88 (.agg #[hdl t])
theorem asValueOf (t : Nat) (ht : t = 138 ∨ t = 139) (p : Option Addr) (w : World) : (Extern.ReflectliteValue.unpack (.iface t (.pointer p))).run Tryz.prog w = .ok (.agg #[hdl t, .pointer (some ⟨w.heap.size, 0, none⟩), .int .u64 150]) (w.alloc (.cells #[.pointer p] t (0, 0))) := by
  rcases ht with rfl | rfl <;> kernel_rfl
theorem asType (p : Addr) (w : World) : ((Extern.ReflectliteValue.methodAny (Extern.ReflectliteValue.valueError "reflectlite.Value.Type" 0) fun t _ _ _ => Extern.ReflectliteType.toType t) #[.agg #[hdl 139, .pointer (some p), .int .u64 150]]).run Tryz.prog w = .ok (rty 139) w := by kernel_rfl
theorem asKindM (t : Nat) (w : World) : (Go.method 497 88 (.agg #[hdl t]) "Kind").run Tryz.prog w = .ok (304, hdl t) w := by kernel_rfl
theorem asKind2 (w : World) : ((Extern.ReflectliteType.abiMethod fun t => (fun (a : Nat) => Value.int .u8 (a : Int)) <$> (Extern.Rtype.kind t : Sem Nat)) #[hdl 139]).run Tryz.prog w = .ok (.int .u8 22) w := by kernel_rfl
theorem asKind1 (w : World) : ((Extern.ReflectliteType.abiMethod fun t => (fun (a : Nat) => Value.int .u8 (a : Int)) <$> (Extern.Rtype.kind t : Sem Nat)) #[hdl 138]).run Tryz.prog w = .ok (.int .u8 22) w := by kernel_rfl
theorem asElemM (v : Value) (w : World) : (Go.method 497 88 v "Elem").run Tryz.prog w = .ok (319, v) w := by kernel_rfl
theorem asElem (w : World) : ((Extern.ReflectliteType.method Extern.ReflectliteType.elem) #[.agg #[hdl 139]]).run Tryz.prog w = .ok (rty 138) w := by kernel_rfl
theorem asImplM (v : Value) (w : World) : (Go.method 497 88 v "Implements").run Tryz.prog w = .ok (320, v) w := by kernel_rfl
theorem asImpl (w : World) : ((Extern.ReflectliteType.relation "Implements" Extern.ReflectliteType.implements_) #[.agg #[hdl 138], rty 26]).run Tryz.prog w = .ok (.bool true) w := by kernel_rfl
theorem asTypeOf (v : Value) (w : World) : (Extern.ReflectliteType.typeOf #[.iface 138 v]).run Tryz.prog w = .ok (rty 138) w := by kernel_rfl
theorem asAssM (v : Value) (w : World) : (Go.method 497 88 v "AssignableTo").run Tryz.prog w = .ok (317, v) w := by kernel_rfl
theorem asAss (w : World) : ((Extern.ReflectliteType.relation "AssignableTo" Extern.ReflectliteType.assignableTo) #[.agg #[hdl 138], rty 138]).run Tryz.prog w = .ok (.bool true) w := by kernel_rfl
theorem asLoad (t : Nat) (ht : t = 138 ∨ t = 139) (b o : Nat) (w : World) (v : Value) (h : w.cell? ⟨b, o, none⟩ = some v) : (loadVar t ⟨b, o, none⟩).run Tryz.prog w = .ok v w := by
  have h1 : (loadVar t ⟨b, o, none⟩).run Tryz.prog w = (load ⟨b, o, none⟩).run Tryz.prog w := by
    rcases ht with rfl | rfl <;> kernel_rfl
  rw [h1]
  simp [h]
theorem asIsNil (b : Nat) (c : Addr) (w : World) (h : w.cell? ⟨b, 0, none⟩ = some (.pointer (some c))) : ((Extern.ReflectliteValue.method (Extern.ReflectliteValue.valueError "reflectlite.Value.IsNil" 0) Extern.ReflectliteValue.isNil) #[.agg #[hdl 139, .pointer (some ⟨b, 0, none⟩), .int .u64 150]]).run Tryz.prog w = .ok (.bool false) w := by
  have h0 : ((Extern.ReflectliteValue.method (Extern.ReflectliteValue.valueError "reflectlite.Value.IsNil" 0) Extern.ReflectliteValue.isNil) #[.agg #[hdl 139, .pointer (some ⟨b, 0, none⟩), .int .u64 150]]).run Tryz.prog w = (Extern.ReflectliteValue.isNil 139 ⟨b, 0, none⟩ 150 22).run Tryz.prog w := by kernel_rfl
  have h1 := asLoad 139 (.inr rfl) b 0 w _ h
  rw [h0]
  unfold Extern.ReflectliteValue.isNil
  simp [h1]
theorem asElemOf (w : World) : (Extern.Rtype.elem? 139).run Tryz.prog w = .ok (some 138) w := by kernel_rfl
theorem asMk (c : Addr) (w : World) : (Extern.ReflectliteValue.mk 138 c Extern.ReflectliteValue.flagAddr).run Tryz.prog w = .ok (.agg #[hdl 138, .pointer (some c), .int .u64 406]) w := by kernel_rfl
theorem asElemV (b : Nat) (c : Addr) (w : World) (h : w.cell? ⟨b, 0, none⟩ = some (.pointer (some c))) : ((Extern.ReflectliteValue.method (Extern.ReflectliteValue.valueError "reflectlite.Value.Elem" 0) Extern.ReflectliteValue.elem) #[.agg #[hdl 139, .pointer (some ⟨b, 0, none⟩), .int .u64 150]]).run Tryz.prog w = .ok (.agg #[hdl 138, .pointer (some c), .int .u64 406]) w := by
  have h0 : ((Extern.ReflectliteValue.method (Extern.ReflectliteValue.valueError "reflectlite.Value.Elem" 0) Extern.ReflectliteValue.elem) #[.agg #[hdl 139, .pointer (some ⟨b, 0, none⟩), .int .u64 150]]).run Tryz.prog w = (Extern.ReflectliteValue.elem 139 ⟨b, 0, none⟩ 150 22).run Tryz.prog w := by kernel_rfl
  have h1 := asLoad 139 (.inr rfl) b 0 w _ h
  have h2 := asElemOf w
  have h3 := asMk c w
  rw [h0]
  unfold Extern.ReflectliteValue.elem
  simp [h1, h2, h3]
theorem asParts (p : Addr) (fl : Nat) (hf : fl = 406 ∨ fl = 150) (w : World) : (Extern.ReflectliteValue.parts (.agg #[hdl 138, .pointer (some p), .int .u64 fl])).run Tryz.prog w = .ok (some (138, p, fl)) w := by
  rcases hf with rfl | rfl <;> kernel_rfl
theorem asDirect (w : World) : (Extern.Rtype.directlyAssignable 138 138).run Tryz.prog w = .ok true w := by kernel_rfl
theorem asStore (b o : Nat) (a : Addr) (w : World) : (storeVar 138 ⟨b, o, none⟩ (.pointer (some a))).run Tryz.prog w = (store ⟨b, o, none⟩ (.pointer (some a))).run Tryz.prog w := by kernel_rfl
theorem run_two {α β γ : Type} {P : Program} {w : World} {x : Sem α} {y : Sem β} {a : α} {b : β} {F : α → β → Sem γ} (hx : x.run P w = .ok a w) (hy : y.run P w = .ok b w) : (x >>= fun p => y >>= fun q => F p q).run P w = (F a b).run P w := by
  rw [Sem.run_bind, hx, Result.andThen, Sem.run_bind, hy, Result.andThen]
theorem asSet (b o n : Nat) (a : Addr) (w : World) (h : w.cell? ⟨n, 0, none⟩ = some (.pointer (some a))) (old : Value) (hc : w.cell? ⟨b, o, none⟩ = some old) (hz : w.frozen? ⟨b, o, none⟩ = false) :
    (Extern.ReflectliteValue.set #[.agg #[hdl 138, .pointer (some ⟨b, o, none⟩), .int .u64 406], .agg #[hdl 138, .pointer (some ⟨n, 0, none⟩), .int .u64 150]]).run Tryz.prog w = .ok (.tuple #[]) (w.setCell ⟨b, o, none⟩ (.pointer (some a))) := by
  have h1 := asLoad 138 (.inl rfl) n 0 w _ h
  have h2 := asParts ⟨b, o, none⟩ 406 (.inl rfl) w
  have h3 := asParts ⟨n, 0, none⟩ 150 (.inr rfl) w
  have h4 := asDirect w
  have h5 := asStore b o a w
  rw [run_store _ _ _ _ _ rfl, hc, hz] at h5
  refine Eq.trans (run_two h2 h3) ?_
  simp [h1, h4, h5, Extern.ReflectliteValue.flagAddr]

theorem cell_block' {w : World} {g o : Nat} {v : Value} (h : w.cell? ⟨g, o, none⟩ = some v) : g < w.heap.size := by
  unfold World.cell? at h
  split at h
  · rename_i hh; exact (Array.getElem?_eq_some_iff.1 hh).1
  · cases h
  all_goals (first | (cases h; done) | (rename_i hh; exact (Array.getElem?_eq_some_iff.1 hh).1))
theorem cell_alloc_lt {w : World} {o : Obj} {b i : Nat} (h : b < w.heap.size) : (w.alloc o).cell? ⟨b, i, none⟩ = w.cell? ⟨b, i, none⟩ := by
  have h1 : (w.alloc o).heap[b]? = w.heap[b]? := by
    show (w.heap.push o)[b]? = _
    rw [Array.getElem?_push, if_neg (by omega)]
  unfold World.cell?
  rw [h1]
theorem frozen_alloc_lt {w : World} {o : Obj} {b i : Nat} (h : b < w.heap.size) : (w.alloc o).frozen? ⟨b, i, none⟩ = w.frozen? ⟨b, i, none⟩ := by
  have h1 : (w.alloc o).heap[b]? = w.heap[b]? := by
    show (w.heap.push o)[b]? = _
    rw [Array.getElem?_push, if_neg (by omega)]
  unfold World.frozen?
  rw [h1]
theorem alloc_size (w : World) (o : Obj) : (w.alloc o).heap.size = w.heap.size + 1 := by
  show (w.heap.push o).size = _
  simp
theorem cell_alloc_new {w : World} {c : Array Value} {t i : Nat} : (w.alloc (.cells c t (0, 0))).cell? ⟨w.heap.size, i, none⟩ = c[i]? := by
  have h1 : (w.alloc (.cells c t (0, 0))).heap[w.heap.size]? = some (.cells c t (0, 0)) := by
    show (w.heap.push _)[w.heap.size]? = _
    simp
  unfold World.cell?
  rw [h1]
  simp
set_option maxHeartbeats 4000000 in
set_option maxRecDepth 100000 in
theorem as2_any (a : Addr) (b o n : Nat) (x : Value) (w : World) (hn : w.cell? ⟨n, 0, none⟩ = some (.pointer (some ⟨b, o, none⟩))) (old : Value) (hc : w.cell? ⟨b, o, none⟩ = some old) (hz : w.frozen? ⟨b, o, none⟩ = false) :
    Calls Tryz.prog 17 #[.iface 138 (.pointer (some a)), x, .agg #[hdl 139, .pointer (some ⟨n, 0, none⟩), .int .u64 150], rty 138] w fun e w' => e = .returned (.bool true) ∧ ∃ X Y, w' = ((w.setCell ⟨b, o, none⟩ (.pointer (some a))).alloc X).alloc Y := by
  have hT := @run_callFunc_extern Tryz.prog 18 _ Extern.ReflectliteType.typeOf Tryz.func18 (by kernel_rfl) (by kernel_rfl) (by kernel_rfl) (by kernel_rfl)
  have h170 := @run_callFunc_extern Tryz.prog 14 _ (fun args => Extern.ReflectliteValue.unpack (args.getD 0 (.tuple #[]))) Tryz.func14 (by kernel_rfl) (by kernel_rfl) (by kernel_rfl) (by kernel_rfl)
  have h257 := @run_callFunc_extern Tryz.prog 317 _ (Extern.ReflectliteType.relation "AssignableTo" Extern.ReflectliteType.assignableTo) Tryz.func317 (by kernel_rfl) (by kernel_rfl) (by kernel_rfl) (by kernel_rfl)
  have h199 := @run_callFunc_extern Tryz.prog 24 _ (Extern.ReflectliteValue.method (Extern.ReflectliteValue.valueError "reflectlite.Value.Elem" 0) Extern.ReflectliteValue.elem) Tryz.func24 (by kernel_rfl) (by kernel_rfl) (by kernel_rfl) (by kernel_rfl)
  have h200 := @run_callFunc_extern Tryz.prog 25 _ Extern.ReflectliteValue.set Tryz.func25 (by kernel_rfl) (by kernel_rfl) (by kernel_rfl) (by kernel_rfl)
  have t1 := asTypeOf
  have t2 := asAssM
  have t3 := asAss
  have t4 := asElemV n ⟨b, o, none⟩
  have t5 := asValueOf 138 (.inl rfl)
  go_enter Tryz.func17, Tryz.ntmps17
  have hnl := cell_block' hn
  have hbl := cell_block' hc
  have e1 : (w.alloc (Obj.cells #[hdl 139, Value.pointer (some ⟨n, 0, none⟩), Value.int IntKind.u64 150] 58)).cell? ⟨n, 0, none⟩ = some (.pointer (some ⟨b, o, none⟩)) := by
    rw [cell_alloc_lt hnl, hn]
  have e2 := asSet b o (w.heap.size + 1) a ((w.alloc (Obj.cells #[hdl 139, Value.pointer (some ⟨n, 0, none⟩), Value.int IntKind.u64 150] 58)).alloc (Obj.cells #[.pointer (some a)] 138)) (by
      have := cell_alloc_new (w := w.alloc (Obj.cells #[hdl 139, Value.pointer (some ⟨n, 0, none⟩), Value.int IntKind.u64 150] 58)) (c := #[.pointer (some a)]) (t := 138) (i := 0)
      rw [alloc_size] at this
      exact this) old (by rw [cell_alloc_lt (by rw [alloc_size]; omega), cell_alloc_lt hbl, hc]) (by rw [frozen_alloc_lt (by rw [alloc_size]; omega), frozen_alloc_lt hbl, hz])
  go_wp2
  refine wp_loop_rounds 1 ?_
  rw [rounds_succ]
  go_wp2
  go_ret
  exact ⟨rfl, _, _, rfl⟩
open Go.RowKit Go.Extern.Stop Go.Stop Go.Extern
set_option maxHeartbeats 4000000 in
set_option maxRecDepth 100000 in
theorem as_any (a : Addr) (b o : Nat) (w : World) (hE : w.cell? ⟨0, 0, none⟩ = some (rty 26)) (old : Value) (hc : w.cell? ⟨b, o, none⟩ = some old) (hz : w.frozen? ⟨b, o, none⟩ = false) :
    Calls Tryz.prog 7 #[.iface 138 (.pointer (some a)), .iface 139 (.pointer (some ⟨b, o, none⟩))] w fun e w' => e = .returned (.bool true) ∧ ∃ X Y Z U, w' = ((((w.setCell ⟨b, o, none⟩ (.pointer (some a))).alloc X).alloc Y).alloc Z).alloc U := by
  go_enter Tryz.func7, Tryz.ntmps7
  have h170 := @run_callFunc_extern Tryz.prog 14 _ (fun args => Extern.ReflectliteValue.unpack (args.getD 0 (.tuple #[]))) Tryz.func14 (by kernel_rfl) (by kernel_rfl) (by kernel_rfl) (by kernel_rfl)
  have h171 := @run_callFunc_extern Tryz.prog 15 _ (Extern.ReflectliteValue.methodAny (Extern.ReflectliteValue.valueError "reflectlite.Value.Type" 0) fun t _ _ _ => Extern.ReflectliteType.toType t) Tryz.func15 (by kernel_rfl) (by kernel_rfl) (by kernel_rfl) (by kernel_rfl)
  have hK := @run_callFunc_extern Tryz.prog 304 _ (Extern.ReflectliteType.abiMethod fun t => do pure (.int .u8 (← Extern.Rtype.kind t))) Tryz.func304 (by kernel_rfl) (by kernel_rfl) (by kernel_rfl) (by kernel_rfl)
  have h172 := @run_callFunc_extern Tryz.prog 16 _ (Extern.ReflectliteValue.method (Extern.ReflectliteValue.valueError "reflectlite.Value.IsNil" 0) Extern.ReflectliteValue.isNil) Tryz.func16 (by kernel_rfl) (by kernel_rfl) (by kernel_rfl) (by kernel_rfl)
  have h259 := @run_callFunc_extern Tryz.prog 319 _ (Extern.ReflectliteType.method Extern.ReflectliteType.elem) Tryz.func319 (by kernel_rfl) (by kernel_rfl) (by kernel_rfl) (by kernel_rfl)
  have h260 := @run_callFunc_extern Tryz.prog 320 _ (Extern.ReflectliteType.relation "Implements" Extern.ReflectliteType.implements_) Tryz.func320 (by kernel_rfl) (by kernel_rfl) (by kernel_rfl) (by kernel_rfl)
  have t1 := asValueOf 139 (.inr rfl)
  have t2 := asType
  have t3 := asKindM
  have t4 := asKind2
  have t5 := asKind1
  have t6 := asElemM
  have t7 := asElem
  have t8 := asImplM
  have t9 := asImpl
  have hlt : 0 < w.heap.size := cell_block' hE
  have e2 : ((w.alloc (Obj.cells #[Value.pointer (some ⟨b, o, none⟩)] 139)).alloc (Obj.cells #[hdl 139, Value.pointer (some ⟨w.heap.size, 0, none⟩), Value.int IntKind.u64 150] 58)).cell? ⟨0, 0, none⟩ = some (rty 26) := by
    rw [cell_alloc_lt (by show 0 < (w.heap.push _).size; simp), cell_alloc_lt hlt, hE]
  have t10 := asIsNil w.heap.size ⟨b, o, none⟩
  have hbl := cell_block' hc
  have hcall := as2_any a b o w.heap.size (.iface 139 (.pointer (some ⟨b, o, none⟩))) ((w.alloc (Obj.cells #[Value.pointer (some ⟨b, o, none⟩)] 139)).alloc (Obj.cells #[hdl 139, Value.pointer (some ⟨w.heap.size, 0, none⟩), Value.int IntKind.u64 150] 58)) (by rw [cell_alloc_lt (by rw [alloc_size]; omega), cell_alloc_new]; rfl) old (by rw [cell_alloc_lt (by rw [alloc_size]; omega), cell_alloc_lt hbl, hc]) (by rw [frozen_alloc_lt (by rw [alloc_size]; omega), frozen_alloc_lt hbl, hz])
  go_wp2_with (go_at_call 17; refine hcall.mono ?_; rintro e w1 ⟨rfl, X, Y, rfl⟩)
  go_ret
  exact ⟨rfl, _, _, _, _, rfl⟩
theorem as_nil (a : Addr) (w : World) : Calls Tryz.prog 7 #[.nilIface, .iface 139 (.pointer (some a))] w fun e w' => e = .returned (.bool false) ∧ w' = w := by
  go_enter Tryz.func7, Tryz.ntmps7
  go_wp2
  go_ret
  exact ⟨rfl, rfl⟩
end Go.Proofs.YtfabiccdolpemaaGreatDoor.AsB
