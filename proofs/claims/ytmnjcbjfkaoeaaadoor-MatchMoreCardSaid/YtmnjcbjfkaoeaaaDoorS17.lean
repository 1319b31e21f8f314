/-
  pleachref10.Goes: a pattern against a term, the document's. Conditions: the trees lie as 'TrV' says, the names as 'Binds'; the pattern and the term may be.
-/
import Derived.Test.YtmnjcbjfkaoeaaaDoorS16
import Derived.Laws.AppendOwnNone
namespace Go.Proofs.YtmnjcbjfkaoeaaaDoor
open Go.RowKit

theorem ownsRow_under {w w' : World} {base : Nat} {e : TypeId} {size : Nat} {v : Value} {n : Nat} {xs : List Value} (h : w.ownsRow base e size v n xs) (hb : Below w.heap.size w w') : w'.ownsRow base e size v n xs := by
  obtain ⟨h1, h2⟩ := h
  refine ⟨h1, ?_⟩
  rcases h2 with h2 | ⟨g, cap, cur, hv, hg, hh, r⟩
  · exact .inl h2
  · exact .inr ⟨g, cap, cur, hv, hg, (hb.block g (Array.getElem?_eq_some_iff.1 hh).1).trans hh, r⟩
theorem ownsRow_base {w : World} {base : Nat} {e : TypeId} {size : Nat} {v : Value} {n : Nat} {xs : List Value} (h : w.ownsRow base e size v n xs) : ∀ j, v.ownBlock = some j → base ≤ j := by
  intro j hj
  rcases h.2 with ⟨rfl, _⟩ | ⟨g, cap, cur, rfl, hg, _⟩
  · cases hj
  · cases hj; exact hg
theorem go_int {p x : Tr} {l : List Bd} (hk : p.k = 6) : p.go x l = if (x.k == 0 && x.n == p.n) = true then some l else none := by
  rw [go_eq, hk, if_neg (by decide), if_pos rfl]
  by_cases h0 : x.k = 0 <;> by_cases h1 : x.n = p.n <;> simp [h0, h1]
theorem go_atom {p x : Tr} {l : List Bd} (hk : p.k = 7) : p.go x l = if (x.k == 1 && x.s.toList == p.s.toList) = true then some l else none := by
  rw [go_eq, hk, if_neg (by decide), if_neg (by decide), if_pos rfl]
  by_cases h0 : x.k = 1 <;> cases h1 : (x.s.toList == p.s.toList) <;> simp [h0]
theorem go_nil {p x : Tr} {l : List Bd} (hk : p.k = 8) : p.go x l = if (x.k == 6) = true then some l else none := by
  rw [go_eq, hk, if_neg (by decide), if_neg (by decide), if_neg (by decide), if_pos rfl]
  by_cases h0 : x.k = 6 <;> simp [h0]

/-- What the round knows. -/
def GRel (F : Nat → Prop) (p x : Tr) (l : List Bd) (w1 : World) (v2 i : Value) (wr : World) : Prop :=
  ∃ k : Nat, k ≤ p.l.length ∧ i = .int .i64 k ∧ ∃ l', Binds F wr v2 l' ∧ Below w1.heap.size w1 wr ∧ (∀ b ∈ l', chkT b.t = 0) ∧ l'.length + Tr.nn.nnl (p.l.drop k) ≤ l.length + Tr.nn.nnl p.l ∧ Tr.go.gol (p.l.drop k) (x.l.drop k) l' = p.go x l

end Go.Proofs.YtmnjcbjfkaoeaaaDoor
