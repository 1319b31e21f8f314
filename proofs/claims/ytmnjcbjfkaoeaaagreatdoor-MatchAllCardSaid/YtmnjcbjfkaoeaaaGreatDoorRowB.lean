/-
  Arguments that are rows of trees: opened out of what their row hands over. No condition.
-/
import Derived.Test.YtmnjcbjfkaoeaaaGreatDoorS21
namespace Go.Proofs.YtmnjcbjfkaoeaaaGreatDoor
open Go.ChangeShapes Go.WideShapes Go.ChangeAt Go.RowKit Go.Joins Go.Deep

section
variable {H : Type} {enc : TypeId × Value → H} {w : World} {v : Value} {d : DataW H} {p : List MemPlace}
set_option maxRecDepth 100000 in
theorem open_row {S T : TypeId} (hS : Tryz.prog.underlying S = some (.slice T)) (hc : Tryz.prog.cellsOf T = 5) (hb : Tryz.prog.bytesOf T = 72) (ht : ∀ fuel, TreeAt enc w T fuel) {base : Nat} (hv : Value.okWide Tryz.prog w .any base S v) (h : DataW.Trod enc Tryz.prog w 0 (fun _ => true) true S v d p) (hw : ∀ m ∈ d.weights Tryz.prog S, m ≤ reachBytes) : ∃ l, Kids (fun _ => True) w v l := by
  obtain ⟨pt, len, cap, rfl⟩ := okWide_slice hS hv
  obtain ⟨fuel, hf⟩ := h
  obtain ⟨sv, l, e, hk⟩ := open_trees hS hc hb (fun m _ => ht m) hf hw
  refine ⟨l, ?_⟩
  have : sv = .slice pt len cap := by simp [Value.cells] at e; exact e.symm
  rw [← this]
  exact hk
set_option maxRecDepth 100000 in
theorem open_nodes {base : Nat} (hv : Value.okWide Tryz.prog w .any base 22 v) (h : DataW.Trod enc Tryz.prog w 0 (fun _ => true) true 22 v d p) (hw : ∀ m ∈ d.weights Tryz.prog 22, m ≤ reachBytes) : ∃ l, Kids (fun _ => True) w v l :=
  open_row Tryz.underlying22 (by kernel_rfl) (by kernel_rfl) open_node hv h hw
set_option maxRecDepth 100000 in
theorem open_terms {base : Nat} (hv : Value.okWide Tryz.prog w .any base 23 v) (h : DataW.Trod enc Tryz.prog w 0 (fun _ => true) true 23 v d p) (hw : ∀ m ∈ d.weights Tryz.prog 23, m ≤ reachBytes) : ∃ l, Kids (fun _ => True) w v l :=
  open_row Tryz.underlying23 (by kernel_rfl) (by kernel_rfl) open_term hv h hw
end
end Go.Proofs.YtmnjcbjfkaoeaaaGreatDoor
