/-
  A Web in memory, and the contracts of its methods that only read. Conditions: the Web lies as 'Web' says.
-/
import Derived.Test.YtjkdmdddgiomjaaPair
import Derived.Test.YtjkdmdddgiomjaaKeys
import Derived.WalkSpells
import Derived.WalkLawsBesides
import Derived.Deep.QuietTactic
import Derived.BigQuiet
import Derived.Lib.Hide
import Derived.Deep.DeepFit
namespace Go.Proofs.Ytjkdmdddgiomjaa
open Go.RowKit Go.Maps

theorem zeroB (w : World) : (zeroValue 4).run Try.prog w = .ok (.bool false) w := by kernel_rfl
theorem zeroM (w : World) : (zeroValue 65).run Try.prog w = .ok (.map none) w := by kernel_rfl

def seenV (m : Int × Int × Int) : Value := .agg #[.int .i64 m.1, .int .i64 m.2.1, .int .i64 m.2.2]

/-- A Web: block B its four fields; the blocks of its maps are all unlike. -/
structure Web (w : World) (B N : Nat) (il : List (Int × Nat × List Int)) (S : Int → Int → Bool) (M : List (Int × Int × Int)) (last : Int) (bl bp bs : Nat) : Prop where
  head : w.heap[B]? = some (.cells #[.map (some bl), .map (some bp), .map (some bs), .int .i64 last] 59 (0, 0))
  outer : IMap 3 w bl N (il.map fun p => (p.1, .map (some p.2.1)))
  inner : ∀ p ∈ il, IMap 3 w p.2.1 N (p.2.2.map fun x => (x, .bool true))
  pairs : PMap w bp N S
  seen : IMap 3 w bs N (M.map fun m => (m.1, seenV m))
  nodup : (B :: bl :: bp :: bs :: il.map (·.2.1)).Nodup

def I64 (a : Int) : Prop := (Lit.int .i64 a).wf = true
theorem I64.min {a b : Int} (ha : I64 a) (hb : I64 b) : I64 (min a b) := by rcases Int.le_total a b with h | h <;> simp [Int.min_def, h] <;> (try split) <;> assumption
theorem I64.max {a b : Int} (ha : I64 a) (hb : I64 b) : I64 (max a b) := by rcases Int.le_total a b with h | h <;> simp [Int.max_def, h] <;> (try split) <;> assumption

section
variable {w : World} {B N : Nat} {il : List (Int × Nat × List Int)} {S : Int → Int → Bool} {M : List (Int × Int × Int)} {last : Int} {bl bp bs : Nat}
theorem Web.cell0 (h : Web w B N il S M last bl bp bs) : w.cell? ⟨B, 0, none⟩ = some (.map (some bl)) := by simp [World.cell?, h.head]
theorem Web.cell1 (h : Web w B N il S M last bl bp bs) : w.cell? ⟨B, 1, none⟩ = some (.map (some bp)) := by simp [World.cell?, h.head]
theorem Web.cell2 (h : Web w B N il S M last bl bp bs) : w.cell? ⟨B, 2, none⟩ = some (.map (some bs)) := by simp [World.cell?, h.head]
theorem Web.cell3 (h : Web w B N il S M last bl bp bs) : w.cell? ⟨B, 3, none⟩ = some (.int .i64 last) := by simp [World.cell?, h.head]
theorem Web.frozen (h : Web w B N il S M last bl bp bs) (i : Nat) : w.frozen? ⟨B, i, none⟩ = false := by simp [World.frozen?, h.head]

set_option maxHeartbeats 400000 in
theorem last_nil (w : World) : Calls Try.prog 28 #[.pointer none] w fun e w' => e = .returned (.int .i64 0) ∧ w = w' := by
  go_enter Try.func28, Try.ntmps28
  go_wp2
  go_ret
  exact ⟨rfl, rfl⟩
set_option maxHeartbeats 400000 in
theorem last_any (h : Web w B N il S M last bl bp bs) : Calls Try.prog 28 #[.pointer (some ⟨B, 0, none⟩)] w fun e w' => e = .returned (.int .i64 last) ∧ w = w' := by
  have h3 := h.cell3
  clear h
  go_enter Try.func28, Try.ntmps28
  go_wp2
  go_ret
  exact ⟨rfl, rfl⟩

set_option maxHeartbeats 400000 in
theorem linked_nil (w : World) (a b : Int) : Calls Try.prog 10 #[.pointer none, .int .i64 a, .int .i64 b] w fun e w' => e = .returned (.bool false) ∧ w = w' := by
  go_enter Try.func10, Try.ntmps10
  go_wp2
  go_ret
  exact ⟨rfl, rfl⟩
set_option maxHeartbeats 400000 in
theorem linked_any (h : Web w B N il S M last bl bp bs) {a b : Int} (ha : I64 a) (hb : I64 b) :
    Calls Try.prog 10 #[.pointer (some ⟨B, 0, none⟩), .int .i64 a, .int .i64 b] w fun e w' => e = .returned (.bool (S (min a b) (max a b))) ∧ w = w' := by
  have h1 := h.cell1
  have hrun := h.pairs.look (t := 56) Try.underlying56 (zeroB w) (ha.min hb) (ha.max hb)
  unfold kv at hrun
  clear h
  go_enter Try.func10, Try.ntmps10
  go_wp2
  go_ret
  exact ⟨rfl, rfl⟩

def adj (il : List (Int × Nat × List Int)) (a : Int) : List Int := match look a il with | some q => q.2 | none => []
theorem look_il (il : List (Int × Nat × List Int)) (a : Int) : look a (il.map fun p => (p.1, Value.map (some p.2.1))) = (look a il).map fun q => Value.map (some q.1) := look_map (fun q : Nat × List Int => Value.map (some q.1)) a il

/-- A slice of ints that the call made: its numbers. -/
def NewInts (w w' : World) (v : Value) (l : List Int) : Prop := w'.ownsRow w.heap.size 3 1 v l.length (l.map (Value.int .i64)) ∧ (v = .slice none 0 0 ↔ l = [])

set_option maxHeartbeats 400000 in
theorem links_nil (w : World) (a : Int) : Calls Try.prog 11 #[.pointer none, .int .i64 a] w fun e w' => e = .returned (.slice none 0 0) ∧ w = w' := by
  go_enter Try.func11, Try.ntmps11
  go_wp2
  go_ret
  exact ⟨rfl, rfl⟩

set_option maxHeartbeats 400000 in
theorem links_any (h : Web w B N il S M last bl bp bs) {a : Int} (ha : I64 a) (hN : N ≤ BN) :
    Calls Try.prog 11 #[.pointer (some ⟨B, 0, none⟩), .int .i64 a] w fun e w' => ∃ v, e = .returned v ∧ NewInts w w' v (adj il a) ∧ Below w.heap.size w w' := by
  have h1 := h.cell0
  have hrun := h.outer.look (t := 55) Try.underlying3 Try.underlying55 (zeroM w) ha
  rw [look_il] at hrun
  unfold adj
  cases hf : look a il with
  | none =>
    rw [hf] at hrun
    simp only [Option.map_none, Option.getD_none] at hrun
    clear hf
    clear h
    go_enter Try.func11, Try.ntmps11
    go_wp2_with (first
      | (go_at_call 36; refine (keys_B _ _).mono ?_; rintro e w' ⟨rfl, rfl⟩)
      | (go_at_call 35; refine (sortedKeys_B_nil _ _ (by simp) (by rw [World.cell?_alloc_at _ _ _ _ (by simp)]; rfl)).mono ?_; rintro e w' ⟨rfl, hb⟩))
    go_ret
    exact ⟨_, rfl, ⟨⟨rfl, .inl ⟨rfl, rfl⟩⟩, by simp⟩, ((Below.refl _ w).alloc (Nat.le_refl _) _).trans (hb.mono (by simp))⟩
  | some p =>
    have hp := look_mem hf
    have hI := h.inner _ hp
    rw [hf] at hrun
    simp only [Option.map_some, Option.getD_some] at hrun
    clear hf hp h
    have hI1 : IMap 3 (w.alloc (.cells #[.map (some p.1)] 65)) p.1 N (p.2.map fun x => (x, .bool true)) := hI.same (Below.heap_alloc _ _ _ hI.lt)
    obtain ⟨b, l⟩ := p
    simp only at hrun hI1 ⊢
    clear hI
    go_enter Try.func11, Try.ntmps11
    go_wp2_with (first
      | (go_at_call 36; refine (keys_B _ _).mono ?_; rintro e w' ⟨rfl, rfl⟩)
      | (go_at_call 35; refine (sortedKeys_B _ b N _ _ (by simp) (by rw [World.cell?_alloc_at _ _ _ _ (by simp)]; rfl) hI1 hN).mono ?_; rintro e w' ⟨v, rfl, hrow, hnil, hb⟩))
    go_ret
    have e1 : (List.map (fun x => (x, Value.bool true)) l).map (·.1) = l := by simp [Function.comp_def]
    rw [e1] at hrow
    exact ⟨v, rfl, ⟨by simpa using ownsRow_base_a hrow (by simp), by simpa using hnil⟩, ((Below.refl _ w).alloc (Nat.le_refl _) _).trans (hb.mono (by simp))⟩
end
end Go.Proofs.Ytjkdmdddgiomjaa
