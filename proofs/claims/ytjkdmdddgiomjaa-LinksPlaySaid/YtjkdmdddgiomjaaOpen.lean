/-
  The argument []Act, opened out of what its row hands over. No condition.
-/
import Derived.Test.YtjkdmdddgiomjaaLaw
import Derived.Test.YtjkdmdddgiomjaaActs
import Derived.Lib.SmallJoins
import Derived.Deep.Slices
import Derived.Deep.Fields
import Derived.ChangeSame
namespace Go.Proofs.Ytjkdmdddgiomjaa
open Go.ChangeShapes Go.WideShapes Go.ChangeAt Go.RowKit Go.Joins Go.Deep

theorem actCells : Try.prog.cellsOf 27 = 3 := by kernel_rfl

section
variable {H : Type} {enc : TypeId × Value → H} {w : World} {v : Value} {d : DataW H} {p : List MemPlace}
set_option maxRecDepth 100000 in
/-- One act of the row. -/
theorem open_act {n : Nat} {cs : List Value} {x : DataW H × List MemPlace} {a : Addr} (hc : w.cells? 0 a 3 = some cs) (h : DataW.trod enc Try.prog w 0 (fun _ => true) true n 27 cs = some x) :
    ∃ y : Int × Int × Int, (I64 y.2.1 ∧ I64 y.2.2) ∧ w.cell? (a.add 0) = some (.int .i64 y.1) ∧ w.cell? (a.add 1) = some (.int .i64 y.2.1) ∧ w.cell? (a.add 2) = some (.int .i64 y.2.2) := by
  obtain ⟨_, hcl, hat⟩ := World.cells?_some hc
  obtain ⟨y0, y1, y2, m, _, _, h0, h1, h2⟩ := trod_struct3 Try.underlying27 h
  obtain ⟨x0, e0, _, _⟩ := DataW.trod_int Try.underlying3 h0
  obtain ⟨x1, e1, _, w1⟩ := DataW.trod_int Try.underlying3 h1
  obtain ⟨x2, e2, _, w2⟩ := DataW.trod_int Try.underlying3 h2
  match cs, hcl with
  | [c0, c1, c2], _ =>
    have f0 : c0 = .int .i64 x0 := by simpa [show Try.prog.cellsOf 3 = 1 from by kernel_rfl] using e0
    have f1 : c1 = .int .i64 x1 := by simpa [show Try.prog.cellsOf 3 = 1 from by kernel_rfl] using e1
    have f2 : c2 = .int .i64 x2 := by simpa [show Try.prog.cellsOf 3 = 1 from by kernel_rfl] using e2
    subst f0 f1 f2
    exact ⟨(x0, x1, x2), ⟨w1, w2⟩, (hat 0 (by omega)).trans rfl, (hat 1 (by omega)).trans rfl, (hat 2 (by omega)).trans rfl⟩

set_option maxRecDepth 100000 in
theorem open_acts (hv : Value.okWide Try.prog w .any 0 22 v) (h : DataW.Trod enc Try.prog w 0 (fun _ => true) true 22 v d p) : ∃ l, ActsAt w v l := by
  obtain ⟨pt, len, cap, rfl⟩ := okWide_slice Try.underlying22 hv
  obtain ⟨fuel, hf⟩ := h
  rcases open_slice Try.underlying22 hf with ⟨hcs, _⟩ | ⟨a, len', cap', m, n, D, Pl, hcs, _, hl, _, hm, _, hi⟩
  · simp [Value.cells] at hcs
    obtain ⟨rfl, rfl, rfl⟩ := hcs
    exact ⟨[], none, 0, rfl, Nat.le_refl _, by simp, fun k hk => absurd hk (by simp)⟩
  · simp [Value.cells] at hcs
    obtain ⟨rfl, rfl, rfl⟩ := hcs
    rw [if_pos rfl] at hm
    subst hm
    have each : ∀ i, ∃ y : Int × Int × Int, i < len → (I64 y.2.1 ∧ I64 y.2.2) ∧ w.cell? (a.add (i * 3)) = some (.int .i64 y.1) ∧ w.cell? (a.add (i * 3 + 1)) = some (.int .i64 y.2.1) ∧ w.cell? (a.add (i * 3 + 2)) = some (.int .i64 y.2.2) := fun i => by
      by_cases hil : i < len
      · obtain ⟨cs, hc, ht⟩ := hi i (by omega)
        rw [actCells] at hc
        obtain ⟨y, hy, h0, h1, h2⟩ := open_act hc ht
        rw [add_add] at h0 h1 h2
        exact ⟨y, fun _ => ⟨hy, h0, h1, h2⟩⟩
      · exact ⟨(0, 0, 0), fun h => absurd h hil⟩
    obtain ⟨F, hF⟩ := Classical.axiomOfChoice each
    have hlen : ((List.range len).map F).length = len := by simp
    refine ⟨(List.range len).map F, some a, m, by rw [hlen], by omega, fun x hx => ?_, fun k hk => ?_⟩
    · obtain ⟨i, hi, rfl⟩ := List.mem_map.1 hx
      exact (hF i (List.mem_range.1 hi)).1
    · rw [hlen] at hk
      obtain ⟨_, h0, h1, h2⟩ := hF k hk
      obtain ⟨g, o, s⟩ := a
      obtain ⟨_, c0, _, _⟩ := hF 0 (by omega)
      have hs : s = none := by
        cases s with
        | none => rfl
        | some z =>
          exfalso
          simp only [Nat.zero_mul, Addr.add, if_true] at c0
          unfold World.cell? at c0
          cases hg : w.heap[g]? with
          | none => simp [hg] at c0
          | some ob => cases ob <;> simp [hg] at c0
      subst hs
      rw [Addr.add_lit] at h0 h1 h2
      refine ⟨g, o, rfl, cell_lt h0, ?_, ?_, ?_⟩
      · simpa using h0
      · simpa [Nat.add_assoc] using h1
      · simpa [Nat.add_assoc] using h2
end
end Go.Proofs.Ytjkdmdddgiomjaa
