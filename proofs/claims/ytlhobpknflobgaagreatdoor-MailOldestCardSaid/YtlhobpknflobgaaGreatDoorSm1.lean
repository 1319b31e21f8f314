/-
  Maps with string keys that a call lays by a literal and then asks: what inserting a new key and looking one up give, on a block known whole. Generic: names no function of the program. No condition.
-/
import Derived.Test.YtlhobpknflobgaaGreatDoorS10
import Derived.MapKept
namespace Go.Proofs.YtlhobpknflobgaaGreatDoor
open Go.RowKit

theorem bs_beq2 (a b : ByteArray) : (a == b) = (a.toList == b.toList) := by
  rw [Bool.eq_iff_iff, MapKept.bytes_beq]
  constructor
  · intro h; subst h; simp
  · intro h
    have h1 : a.toList = b.toList := eq_of_beq h
    rw [ByteArray.toList_eq, ByteArray.toList_eq] at h1
    exact Go.WideShapes.bytes_inj h1
theorem findNow_nil (s : ByteArray) (i : Nat) : Instr.findNow .string (.string s) [] i = some none := rfl
theorem findNow_cons (s k : ByteArray) (v : Value) (c : Nat) (r : List MapEntry) (i : Nat) : Instr.findNow .string (.string s) ({ key := .string k, val := v, born := c } :: r) i = if (s.toList == k.toList) = true then some (some (i, v)) else Instr.findNow .string (.string s) r (i + 1) := by
  rw [Instr.findNow, show Instr.sameNow .string (.string s) (.string k) = some (s == k) from rfl, bs_beq2]
  cases s.toList == k.toList <;> rfl

section
variable {P : Program} {w : World} {t k e : TypeId} {b : Nat} {es : Array MapEntry} {clock : Nat} {s : ByteArray}
theorem run_insert_new (ht : P.underlying t = some (.map k e)) (hk : P.underlying k = some .string) (hb : w.heap[b]? = some (.map es clock)) (val : Value) (hf : Instr.findNow .string (.string s) es.toList 0 = some none) :
    (Instr.mapUpdate t (.map (some b)) (.string s) val).run P w = .ok () { w with heap := w.heap.setIfInBounds b (.map (es.push { key := .string s, val := val, born := clock }) (clock + 1)) } := by
  have hc : (Instr.checkKey false 10000 k (.string s)).run P w = .ok () w := MapKept.run_checkKey (k := .string s) hk (by simp [MapKept.IsKey]) false 9999
  simp [Instr.mapUpdate, run_underlying ht, MapKept.run_getObj_map hb, hc, MapKept.run_findKey hk hf, MapKept.run_setObj_map _ hb, Result.andThen]
theorem run_lookup_hit (ht : P.underlying t = some (.map k e)) (hk : P.underlying k = some .string) (hb : w.heap[b]? = some (.map es clock)) {i : Nat} {v : Value} (hf : Instr.findNow .string (.string s) es.toList 0 = some (some (i, v))) :
    (Instr.lookup t (.map (some b)) (.string s) true).run P w = .ok (.tuple #[v, .bool true]) w := by
  have hc : (Instr.checkKey es.isEmpty 10000 k (.string s)).run P w = .ok () w := MapKept.run_checkKey (k := .string s) hk (by simp [MapKept.IsKey]) _ 9999
  simp [Instr.lookup, run_underlying ht, MapKept.run_getObj_map hb, hc, MapKept.run_findKey hk hf, Result.andThen]
theorem run_lookup_miss (ht : P.underlying t = some (.map k e)) (hk : P.underlying k = some .string) (hb : w.heap[b]? = some (.map es clock)) (hf : Instr.findNow .string (.string s) es.toList 0 = some none) {z : Value} (hz : (zeroValue e).run P w = .ok z w) :
    (Instr.lookup t (.map (some b)) (.string s) true).run P w = .ok (.tuple #[z, .bool false]) w := by
  have hc : (Instr.checkKey es.isEmpty 10000 k (.string s)).run P w = .ok () w := MapKept.run_checkKey (k := .string s) hk (by simp [MapKept.IsKey]) _ 9999
  simp [Instr.lookup, run_underlying ht, MapKept.run_getObj_map hb, hc, MapKept.run_findKey hk hf, hz, Result.andThen]
theorem run_lookup1_hit (ht : P.underlying t = some (.map k e)) (hk : P.underlying k = some .string) (hb : w.heap[b]? = some (.map es clock)) {i : Nat} {v : Value} (hf : Instr.findNow .string (.string s) es.toList 0 = some (some (i, v))) :
    (Instr.lookup t (.map (some b)) (.string s) false).run P w = .ok v w := by
  have hc : (Instr.checkKey es.isEmpty 10000 k (.string s)).run P w = .ok () w := MapKept.run_checkKey (k := .string s) hk (by simp [MapKept.IsKey]) _ 9999
  simp [Instr.lookup, run_underlying ht, MapKept.run_getObj_map hb, hc, MapKept.run_findKey hk hf, Result.andThen]
end
theorem run_mk {P : Program} (w : World) (t : TypeId) : (Instr.makeMap t none).run P w = .ok (.map (some w.heap.size)) (w.alloc (.map #[] 0)) := by simp [Instr.makeMap]
theorem below_map {w : World} {b B : Nat} {es : Array MapEntry} {clock : Nat} (hB : B ≤ b) : Below B w { w with heap := w.heap.setIfInBounds b (.map es clock) } :=
  ⟨rfl, rfl, rfl, by simp, fun k hk => by simp [Array.getElem?_setIfInBounds]; intro h; omega⟩

section
variable {P : Program} {w : World} {ops : Array Oper} {rest : List Oper} {o : Oper} {a : Act} {Q : Exit → Act → World → Prop}
theorem wpList_insert_new (hg : o.guard = none) (m x v : Operand) (t : TypeId) (hop : o.op = Op.insert t m x v) (k e : TypeId) (ht : P.underlying t = some (.map k e)) (hk : P.underlying k = some .string) (b : Nat) (es : Array MapEntry) (clock : Nat)
    (hm : a.eval m = .map (some b)) (hb : w.heap[b]? = some (.map es clock)) (s : ByteArray) (val : Value) (hx : a.eval x = .string s) (hv : a.eval v = val) (hf : Instr.findNow .string (.string s) es.toList 0 = some none) (B : Nat) (hB : B ≤ b)
    (h : ∀ w', w'.heap[b]? = some (.map (es.push { key := .string s, val := val, born := clock }) (clock + 1)) → Below B w w' → wpList P ops Q rest (a.put o.dst undef) w') : wpList P ops Q (o :: rest) a w := by
  refine wpList_plain hg fun K' hK' => ?_
  have hrun := run_insert_new (P := P) ht hk hb val hf
  unfold Oper.wp
  simp [execOp, hop, hm, hx, hv, hrun, Result.andThen]
  exact hK' _ _ (h _ (MapKept.heap_set hb).1 (below_map hB))
theorem wpList_lookup_hit (hg : o.guard = none) (m x : Operand) (t : TypeId) (hop : o.op = Op.lookup t m x true) (k e : TypeId) (ht : P.underlying t = some (.map k e)) (hk : P.underlying k = some .string) (b : Nat) (es : Array MapEntry) (clock : Nat)
    (hm : a.eval m = .map (some b)) (hb : w.heap[b]? = some (.map es clock)) (s : ByteArray) (hx : a.eval x = .string s) (i : Nat) (v : Value) (hf : Instr.findNow .string (.string s) es.toList 0 = some (some (i, v)))
    (h : wpList P ops Q rest (a.put o.dst (.tuple #[v, .bool true])) w) : wpList P ops Q (o :: rest) a w := by
  refine wpList_plain hg fun K' hK' => ?_
  have hrun := run_lookup_hit (P := P) ht hk hb hf
  unfold Oper.wp
  simp [execOp, hop, hm, hx, hrun, Result.andThen]
  exact hK' _ _ h
theorem wpList_lookup_miss (hg : o.guard = none) (m x : Operand) (t : TypeId) (hop : o.op = Op.lookup t m x true) (k e : TypeId) (ht : P.underlying t = some (.map k e)) (hk : P.underlying k = some .string) (b : Nat) (es : Array MapEntry) (clock : Nat)
    (hm : a.eval m = .map (some b)) (hb : w.heap[b]? = some (.map es clock)) (s : ByteArray) (hx : a.eval x = .string s) (hf : Instr.findNow .string (.string s) es.toList 0 = some none) (z : Value) (hz : (zeroValue e).run P w = .ok z w)
    (h : wpList P ops Q rest (a.put o.dst (.tuple #[z, .bool false])) w) : wpList P ops Q (o :: rest) a w := by
  refine wpList_plain hg fun K' hK' => ?_
  have hrun := run_lookup_miss (P := P) ht hk hb hf hz
  unfold Oper.wp
  simp [execOp, hop, hm, hx, hrun, Result.andThen]
  exact hK' _ _ h
theorem wpList_lookup1_hit (hg : o.guard = none) (m x : Operand) (t : TypeId) (hop : o.op = Op.lookup t m x false) (k e : TypeId) (ht : P.underlying t = some (.map k e)) (hk : P.underlying k = some .string) (b : Nat) (es : Array MapEntry) (clock : Nat)
    (hm : a.eval m = .map (some b)) (hb : w.heap[b]? = some (.map es clock)) (s : ByteArray) (hx : a.eval x = .string s) (i : Nat) (v : Value) (hf : Instr.findNow .string (.string s) es.toList 0 = some (some (i, v)))
    (h : wpList P ops Q rest (a.put o.dst v) w) : wpList P ops Q (o :: rest) a w := by
  refine wpList_plain hg fun K' hK' => ?_
  have hrun := run_lookup1_hit (P := P) ht hk hb hf
  unfold Oper.wp
  simp [execOp, hop, hm, hx, hrun, Result.andThen]
  exact hK' _ _ h
end
end Go.Proofs.YtlhobpknflobgaaGreatDoor
