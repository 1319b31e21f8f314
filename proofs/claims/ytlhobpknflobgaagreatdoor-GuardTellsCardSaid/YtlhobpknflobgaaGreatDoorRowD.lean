/-
  A word that comes in: how long it is. No condition.
-/
import Derived.Test.YtlhobpknflobgaaGreatDoorS21
namespace Go.Proofs.YtlhobpknflobgaaGreatDoor
open Go.ChangeShapes Go.WideShapes Go.ChangeAt Go.RowKit
theorem str_reach {s : ByteArray} (h : s.data.toList.length ≤ reachBytes) : s.size ≤ 140737488355328 := by
  rw [Array.length_toList] at h
  unfold reachBytes at h
  have h2 : s.size = s.data.size := rfl
  omega
section
variable {H : Type} {enc : TypeId × Value → H} {w : World} {v : Value} {d : DataW H} {p : List MemPlace}
set_option maxRecDepth 100000 in
theorem open_strs {base : Nat} (hv : Value.okWide Tryz.prog w .any base 9 v) (h : DataW.Trod enc Tryz.prog w 0 (fun _ => true) true 9 v d p) (hw : ∀ m ∈ d.weights Tryz.prog 9, m ≤ reachBytes) : ∃ s, v = .string s ∧ s.size ≤ 140737488355328 := by
  obtain ⟨s, rfl⟩ := okWide_string Tryz.underlying9 hv
  obtain ⟨fuel, hf⟩ := h
  obtain ⟨s', e, hx⟩ := trod_str Tryz.underlying9 hf
  have e2 : s = s' := by simpa [Value.cells] using e
  subst e2
  cases hx
  have h1 : s.data.toList.length ≤ reachBytes := hw _ (by rw [DataW.weights]; exact List.mem_singleton.2 rfl)
  exact ⟨s, rfl, str_reach h1⟩
end
end Go.Proofs.YtlhobpknflobgaaGreatDoor
