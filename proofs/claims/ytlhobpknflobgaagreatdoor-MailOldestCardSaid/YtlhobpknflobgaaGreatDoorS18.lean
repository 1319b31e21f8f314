/-
  pleachref10.Match, All. Conditions: the trees lie as 'TrV', 'Kids' say, the names as 'Binds'; at most 200 patterns.
  pleachref10.All. Conditions: the trees lie as 'Kids' says, the names as 'Binds'; at most 200 patterns.
-/
import Derived.Test.YtlhobpknflobgaaGreatDoorS17
namespace Go.Proofs.YtlhobpknflobgaaGreatDoor
open Go.RowKit

def goR (p x : Tr) (l : List Bd) : List Bd × Bool × Int := match p.go x l with
  | some l' => (l', true, 0)
  | none => (l, false, 0)
def matchS (p x : Tr) (l : List Bd) : List Bd × Bool × Int := if (!patB p || (!(chkT x == 0) || !mayB l)) = true then ([], false, 2) else goR p x l
theorem allS_one (p x : Tr) (l : List Bd) : allS [p] [x] l = matchS p x l := by
  have hb : badAll [p] [x] l = (!patB p || (!(chkT x == 0) || !mayB l)) := by
    unfold badAll
    simp only [List.any_cons, List.any_nil, List.length_singleton, Bool.or_false]
    cases mayB l <;> cases patB p <;> cases (chkT x == 0) <;> rfl
  unfold allS matchS
  rw [hb]
  split
  · rfl
  · unfold goR
    rw [Tr.go.gol]
    cases p.go x l with
    | none => rfl
    | some b => rfl

end Go.Proofs.YtlhobpknflobgaaGreatDoor
namespace Go.Proofs.YtlhobpknflobgaaGreatDoor
open Go.RowKit

theorem any_take {α : Type} {P : α → Bool} {l : List α} {k : Nat} (hk : k < l.length) (h : (l.take k).any P = false) (hp : P l[k] = false) : (l.take (k + 1)).any P = false := by
  rw [List.take_succ_eq_append_getElem hk, List.any_append, h]; simp [hp]
theorem any_at {α : Type} {P : α → Bool} {l : List α} {k : Nat} (hk : k < l.length) (hp : P l[k] = true) : l.any P = true := List.any_eq_true.2 ⟨l[k], List.getElem_mem hk, hp⟩
theorem may_parts {l : List Bd} (h : mayB l = true) : l.length ≤ 64 ∧ ∀ b ∈ l, chkT b.t = 0 := by
  unfold mayB at h
  simp only [Bool.and_eq_true, decide_eq_true_eq, Bool.not_eq_true'] at h
  refine ⟨h.1, fun b hb => ?_⟩
  have := List.any_eq_false.1 h.2 b hb
  unfold badB at this
  simp at this
  exact this.2.2

end Go.Proofs.YtlhobpknflobgaaGreatDoor
