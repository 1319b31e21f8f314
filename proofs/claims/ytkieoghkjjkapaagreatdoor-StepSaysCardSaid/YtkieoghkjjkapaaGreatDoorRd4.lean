/-
  Trees, and rows of trees, of what can be read. No condition.
-/
import Derived.Test.YtkieoghkjjkapaaGreatDoorRd1
import Derived.Test.YtkieoghkjjkapaaGreatDoorSa4
namespace Go.Proofs.YtkieoghkjjkapaaGreatDoor.Rdb
open Go.RowKit

theorem fld {fs : Array Field} {L : List (TypeId × Nat)} (h : fs.toList.map (fun f => (f.type, f.offset)) = L) {i t o : Nat} (hi : L[i]? = some (t, o)) : ∃ f, fs[i]? = some f ∧ f.type = t ∧ f.offset = o := by
  subst h
  simp only [List.getElem?_map, Option.map_eq_some_iff, Prod.mk.injEq] at hi
  obtain ⟨f, h1, h2, h3⟩ := hi
  exact ⟨f, by simpa using h1, h2, h3⟩
/-- A struct's field. -/
theorem rd_field {P : Program} {w : World} {n : Nat} {T : TypeId} {fs : Array Field} {cs : List Value} (h : P.underlying T = some (.struct fs)) {L : List (TypeId × Nat)} (hL : fs.toList.map (fun f => (f.type, f.offset)) = L) (hx : Rd P w n T cs) :
    ∃ m, n = m + 1 ∧ cs.length = P.cellsOf T ∧ ∀ (i t o : Nat), L[i]? = some (t, o) → Rd P w m t ((cs.drop o).take (P.cellsOf t)) := by
  obtain ⟨m, h1, h2, h3⟩ := rd_struct h hx
  refine ⟨m, h1, h2, fun i t o hi => ?_⟩
  obtain ⟨f, e, rfl, rfl⟩ := fld hL hi
  exact h3 i f e

def RdTree (w : World) (T : TypeId) (n : Nat) : Prop := ∀ cs, Rd Tryz.prog w n T cs → ∃ (tr : Tr) (sv : Value), cs = [.int .i8 tr.k, .int .i64 tr.n, .string tr.s, .string tr.t, sv] ∧ TrV (fun _ => True) w tr sv

theorem rd_kids {w : World} {T S : TypeId} (hS : Tryz.prog.underlying S = some (.slice T)) (hc : Tryz.prog.cellsOf T = 5) (hb : Tryz.prog.bytesOf T = 72) {n : Nat} (ih : ∀ m, m < n → RdTree w T m) {cs : List Value} (h : Rd Tryz.prog w n S cs) :
    ∃ (sv : Value) (l : List Tr), cs = [sv] ∧ Kids (fun _ => True) w sv l := by
  obtain ⟨m, p, len, cap, rfl, rfl, hl, hw, hel⟩ := rd_slice hS h
  rw [hb] at hw
  have each : ∀ i, ∃ q : Tr × Value, i < len → (∃ g o, p = some ⟨g, o, none⟩ ∧ NodeAt w g (o + i * 5) q.1 q.2) ∧ TrV (fun _ => True) w q.1 q.2 := fun i => by
    by_cases hil : i < len
    · obtain ⟨g, o, es, e1, e2, e3, e4⟩ := hel i hil (by rw [hc]; decide)
      obtain ⟨tr, sv, rfl, hx⟩ := ih m (by omega) es e4
      rw [hc] at e3
      refine ⟨(tr, sv), fun _ => ⟨⟨g, o, e1, ?_, ?_, ?_, ?_, ?_⟩, hx⟩⟩
      · exact e3 0 _ rfl
      · exact e3 1 _ rfl
      · exact e3 2 _ rfl
      · exact e3 3 _ rfl
      · exact e3 4 _ rfl
    · exact ⟨(.mk 0 0 ⟨#[]⟩ ⟨#[]⟩ [], .bool true), fun h => absurd h hil⟩
  obtain ⟨Q, hQ⟩ := Classical.axiomOfChoice each
  have hlb : len ≤ BL := by unfold reachBytes at hw; unfold BL; omega
  refine ⟨_, (List.range len).map fun i => (Q i).1, rfl, ?_⟩
  have key : Kids (fun _ => True) w (.slice p ((List.range len).map fun i => (Q i).1).length cap) ((List.range len).map fun i => (Q i).1) := by
    refine .mk p cap _ (fun i => (Q i).2) (by simpa using hl) (by simpa using hlb) (fun i hi => ?_) (fun i hi => ?_) (fun i hi => ?_)
    all_goals
      have hi' : i < len := by simpa using hi
      have hm : ((List.range len).map fun i => (Q i).1)[i] = (Q i).1 := by simp
      obtain ⟨⟨g, o, e1, e2⟩, htr⟩ := hQ i hi'
      rw [hm]
    · exact htr.wf
    · exact ⟨g, o, e1, trivial, e2⟩
    · exact htr.kids
  simpa using key

set_option maxRecDepth 100000 in
theorem rd_tree {w : World} {T S : TypeId} {fs : Array Field} (hT : Tryz.prog.underlying T = some (.struct fs)) (hf : fs.toList.map (fun f => (f.type, f.offset)) = [(22, 0), (3, 1), (9, 2), (9, 3), (S, 4)]) (hS : Tryz.prog.underlying S = some (.slice T)) (hc : Tryz.prog.cellsOf T = 5) (hb : Tryz.prog.bytesOf T = 72) (hcS : Tryz.prog.cellsOf S = 1) (n : Nat) : RdTree w T n := by
  induction n using Nat.strongRecOn with
  | ind n ih =>
    intro cs h
    obtain ⟨m, rfl, hl, hfs⟩ := rd_field hT hf h
    rw [hc] at hl
    match cs, hl with
    | [c0, c1, c2, c3, c4], _ =>
      have k0 := hfs 0 _ _ rfl
      have k1 := hfs 1 _ _ rfl
      have k2 := hfs 2 _ _ rfl
      have k3 := hfs 3 _ _ rfl
      have k4 := hfs 4 _ _ rfl
      rw [show Tryz.prog.cellsOf 22 = 1 from by kernel_rfl] at k0
      rw [show Tryz.prog.cellsOf 3 = 1 from by kernel_rfl] at k1
      rw [show Tryz.prog.cellsOf 9 = 1 from by kernel_rfl] at k2 k3
      rw [hcS] at k4
      simp only [List.drop_zero, List.drop_succ_cons, List.take_succ_cons, List.take_zero] at k0 k1 k2 k3 k4
      obtain ⟨a0, r0, w0⟩ := rd_int Tryz.underlying22 k0
      obtain ⟨a1, r1, w1⟩ := rd_int Tryz.underlying3 k1
      obtain ⟨a2, r2, w2⟩ := rd_string Tryz.underlying9 k2
      obtain ⟨a3, r3, w3⟩ := rd_string Tryz.underlying9 k3
      cases r0; cases r1; cases r2; cases r3
      obtain ⟨sv, l, e, hk⟩ := rd_kids hS hc hb (fun i hi => ih i (by omega)) k4
      cases e
      refine ⟨.mk a0 a1 a2 a3 l, _, rfl, ⟨w0, w1, ?_, ?_⟩, hk⟩
      · unfold reachBytes at w2; unfold BL; show a2.size ≤ _; omega
      · unfold reachBytes at w3; unfold BL; show a3.size ≤ _; omega
set_option maxRecDepth 100000 in
theorem rd_term {w : World} (n : Nat) : RdTree w 27 n := rd_tree (S := 23) Tryz.underlying27 (by kernel_rfl) Tryz.underlying23 (by kernel_rfl) (by kernel_rfl) (by kernel_rfl) n
set_option maxRecDepth 100000 in
theorem rd_terms {w : World} {n : Nat} {cs : List Value} (h : Rd Tryz.prog w n 23 cs) : ∃ (sv : Value) (l : List Tr), cs = [sv] ∧ Kids (fun _ => True) w sv l := rd_kids (T := 27) Tryz.underlying23 (by kernel_rfl) (by kernel_rfl) (fun m _ => rd_term m) h
end Go.Proofs.YtkieoghkjjkapaaGreatDoor.Rdb
