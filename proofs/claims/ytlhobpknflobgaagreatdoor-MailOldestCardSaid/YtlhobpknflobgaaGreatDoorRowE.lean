/-
  Arguments, opened.
-/
import Derived.Test.YtlhobpknflobgaaGreatDoorS21
import Derived.Test.YtlhobpknflobgaaGreatDoorM11
import Derived.ChangeArms
namespace Go.Proofs.YtlhobpknflobgaaGreatDoor
open Go.ChangeShapes Go.WideShapes Go.ChangeAt Go.RowKit Go.Joins Go.Deep

section
variable {H : Type} {enc : TypeId × Value → H} {w : World} {v : Value} {d : DataW H} {p : List MemPlace}
set_option maxRecDepth 100000 in
theorem open_row {S T : TypeId} (hS : Tryz.prog.underlying S = some (.slice T)) (hc : Tryz.prog.cellsOf T = 5) (hb : Tryz.prog.bytesOf T = 72) (ht : ∀ fuel, TreeAt enc w T fuel) {base : Nat} (hv : Value.okWide Tryz.prog w .any base S v) (h : DataW.Trod enc Tryz.prog w 0 (fun _ => true) true S v d p) (hw : ∀ m ∈ d.weights Tryz.prog S, m ≤ reachBytes) : ∃ l, Kids (fun _ => True) w v l := by
  obtain ⟨pt, len, cap, rfl⟩ := okWide_slice hS hv
  obtain ⟨fuel, hf⟩ := h
  obtain ⟨sv, l, e, hk⟩ := open_trees hS hc hb (fun m _ => ht m) hf hw
  refine ⟨l, ?_⟩
  have : sv = .slice pt len cap := by simp [Value.cells] at e; exact e.symm
  rw [← this]
  exact hk
set_option maxRecDepth 100000 in
theorem open_nodes {base : Nat} (hv : Value.okWide Tryz.prog w .any base 23 v) (h : DataW.Trod enc Tryz.prog w 0 (fun _ => true) true 23 v d p) (hw : ∀ m ∈ d.weights Tryz.prog 23, m ≤ reachBytes) : ∃ l, Kids (fun _ => True) w v l :=
  open_row Tryz.underlying23 (by kernel_rfl) (by kernel_rfl) open_node hv h hw
end
end Go.Proofs.YtlhobpknflobgaaGreatDoor
namespace Go.Proofs.YtlhobpknflobgaaGreatDoor
open Go.ChangeShapes Go.WideShapes Go.ChangeAt Go.RowKit Go.Joins Go.Deep

section
variable {H : Type} {enc : TypeId × Value → H} {w : World} {v : Value} {d : DataW H} {p : List MemPlace}
set_option maxRecDepth 100000 in
/-- One item. -/
theorem open_item {n : Nat} {cs : List Value} {x : DataW H × List MemPlace} (h : DataW.trod enc Tryz.prog w 0 (fun _ => true) true n 65 cs = some x) (hw : ∀ m ∈ x.1.weights Tryz.prog 65, m ≤ reachBytes) :
    ∃ q : It × Value, cs = icells q ∧ TrV (fun _ => True) w q.1.t q.2 := by
  obtain ⟨y0, y1, m, rfl, hl, h0, h1⟩ := trod_struct2 Tryz.underlying65 h
  have hl6 : cs.length = 6 := hl.trans (by kernel_rfl)
  match cs, hl6 with
  | [c0, c1, c2, c3, c4, c5], _ =>
    have h0' : DataW.trod enc Tryz.prog w 0 (fun _ => true) true m 29 [c0, c1, c2, c3, c4] = some y0 := by
      have e : (([c0, c1, c2, c3, c4, c5] : List Value).drop 0).take (Tryz.prog.cellsOf 29) = [c0, c1, c2, c3, c4] := by rw [show Tryz.prog.cellsOf 29 = 5 from by kernel_rfl]; rfl
      rw [← e]; exact h0
    have h1' : DataW.trod enc Tryz.prog w 0 (fun _ => true) true m 4 [c5] = some y1 := by
      have e : (([c0, c1, c2, c3, c4, c5] : List Value).drop 5).take (Tryz.prog.cellsOf 4) = [c5] := by rw [show Tryz.prog.cellsOf 4 = 1 from by kernel_rfl]; rfl
      rw [← e]; exact h1
    obtain ⟨s, e0, e1⟩ := DataW.trod_bool Tryz.underlying4 h1'
    cases e0
    subst e1
    have hW : ∀ m, m ∈ DataW.weightsEach Tryz.prog [29, 4] [y0.1, .lit (.bool s)] → m ≤ reachBytes := by
      intro m hm
      refine hw m ?_
      rw [weights_struct Tryz.underlying65]
      exact hm
    obtain ⟨tr, sv, e, ht⟩ := open_term m _ _ h0' (fun k hk => hW k (by simp [DataW.weightsEach, hk]))
    simp only [List.cons.injEq, and_true] at e
    obtain ⟨rfl, rfl, rfl, rfl, rfl⟩ := e
    exact ⟨(⟨tr, s⟩, c4), rfl, ht⟩

set_option maxRecDepth 100000 in
/-- A row of items. -/
theorem open_items {base : Nat} (hv : Value.okWide Tryz.prog w .any base 55 v) (h : DataW.Trod enc Tryz.prog w 0 (fun _ => true) true 55 v d p) (hw : ∀ m ∈ d.weights Tryz.prog 55, m ≤ reachBytes) : ∃ l, Items (fun _ => True) w v l := by
  obtain ⟨pt, len, cap, rfl⟩ := okWide_slice Tryz.underlying55 hv
  obtain ⟨fuel, hf⟩ := h
  rcases DataW.trod_slice Tryz.underlying55 hf with ⟨e, _⟩ | ⟨a, len', cap', elems, rest, n, rfl, e, hx, _, hl, _, hlen, hel, _, _⟩
  · simp [Value.cells] at e
    obtain ⟨rfl, rfl, rfl⟩ := e
    exact ⟨[], Items.nil _ _⟩
  · simp [Value.cells] at e
    obtain ⟨rfl, rfl, rfl⟩ := e
    obtain rfl : d = .slice (elems.map (·.1)) (rest.map (·.1)) := (Prod.mk.inj hx).1
    have hw1 : (elems.length + rest.length) * 80 ≤ reachBytes := by
      refine hw _ ?_
      rw [weights_slice Tryz.underlying55, show Tryz.prog.bytesOf 65 = 80 from by kernel_rfl, List.length_map, List.length_map]
      exact List.mem_cons_self
    have hw2 : ∀ y ∈ elems, ∀ m ∈ y.1.weights Tryz.prog 65, m ≤ reachBytes := by
      intro y hy m hm
      refine hw m ?_
      rw [weights_slice Tryz.underlying55]
      exact List.mem_cons_of_mem _ (List.mem_append_left _ (weightsAll_mem (List.mem_map.2 ⟨y, hy, rfl⟩) m hm))
    have each : ∀ i, ∃ q : It × Value, i < len → (∀ j u, (icells q)[j]? = some u → w.cell? (a.add (i * 6 + j)) = some u) ∧ TrV (fun _ => True) w q.1.t q.2 := fun i => by
      by_cases hil : i < len
      · have h1 := hel i hil
        rw [List.getElem?_eq_getElem (by omega)] at h1
        obtain ⟨cs', hc', ht'⟩ := Option.bind_eq_some_iff.1 h1
        obtain ⟨q, rfl, hq⟩ := open_item ht' (hw2 _ (List.getElem_mem _))
        rw [show Tryz.prog.cellsOf 65 = 6 from by kernel_rfl] at hc'
        obtain ⟨_, _, hat⟩ := World.cells?_some hc'
        refine ⟨q, fun _ => ⟨fun j u hu => ?_, hq⟩⟩
        have hj : j < 6 := by have := (List.getElem?_eq_some_iff.1 hu).1; simpa [icells] using this
        have := hat j hj
        rw [add_add] at this
        exact this.trans hu
      · exact ⟨(zeroI, undef), fun h => absurd h hil⟩
    obtain ⟨Q, hQ⟩ := Classical.axiomOfChoice each
    have hlb : len ≤ BL := by unfold reachBytes at hw1; unfold BL; omega
    refine ⟨(List.range len).map fun i => (Q i).1, some a, cap, by simp, by simpa using hl, by simpa using hlb, fun i hi => ?_, fun e => by cases e⟩
    have hi' : i < len := by simpa using hi
    have hm : ((List.range len).map fun i => (Q i).1)[i] = (Q i).1 := by simp
    obtain ⟨hcell, htr⟩ := hQ i hi'
    have h00 : ∃ g o, a = ⟨g, o, none⟩ := by
      obtain ⟨g, o, e⟩ := spot_none ((hQ 0 (by omega)).1 0 _ rfl)
      refine ⟨g, o, ?_⟩
      simpa [Addr.add] using e
    obtain ⟨g, o, rfl⟩ := h00
    rw [hm]
    refine ⟨g, o, (Q i).2, rfl, trivial, ⟨?_, ?_, ?_, ?_, ?_⟩, ?_, htr⟩
    · have := hcell 0 _ rfl; rw [addr_add] at this; simpa using this
    · have := hcell 1 _ rfl; rw [addr_add] at this; simpa [Nat.add_assoc] using this
    · have := hcell 2 _ rfl; rw [addr_add] at this; simpa [Nat.add_assoc] using this
    · have := hcell 3 _ rfl; rw [addr_add] at this; simpa [Nat.add_assoc] using this
    · have := hcell 4 _ rfl; rw [addr_add] at this; simpa [Nat.add_assoc] using this
    · have := hcell 5 _ rfl; rw [addr_add] at this; simpa [Nat.add_assoc] using this

set_option maxRecDepth 100000 in
theorem open_int {base : Nat} (hv : Value.okWide Tryz.prog w .any base 3 v) (h : DataW.Trod enc Tryz.prog w 0 (fun _ => true) true 3 v d p) : ∃ n, v = .int .i64 n ∧ IntKind.i64.wrap n = n := by
  obtain ⟨n, rfl⟩ := okWide_int Tryz.underlying3 hv
  obtain ⟨fuel, hf⟩ := h
  obtain ⟨m, e, _, hw⟩ := DataW.trod_int Tryz.underlying3 hf
  simp [Value.cells] at e
  subst e
  have h1 : -9223372036854775808 ≤ n ∧ n ≤ 9223372036854775807 := by
    have h2 : IntKind.i64.min ≤ n ∧ n ≤ 9223372036854775807 := by simpa [Lit.wf] using hw
    exact ⟨Int.le_trans (by decide) h2.1, h2.2⟩
  exact ⟨n, rfl, by rw [IntKind.wrap_i64]; omega⟩
end
end Go.Proofs.YtlhobpknflobgaaGreatDoor
