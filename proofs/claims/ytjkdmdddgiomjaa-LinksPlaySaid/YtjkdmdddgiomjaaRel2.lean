/-
  The plain law, part four: the relation is kept by each act. No program in sight. No condition.
-/
import Derived.Test.YtjkdmdddgiomjaaRel
namespace Go.Proofs.Ytjkdmdddgiomjaa
open Go.RowKit Go.Maps

/-- What an act makes of the reference's links. -/
def rask (d a b : Int) (ll : List (Int × Int)) : List (Int × Int) :=
  if d = 0 then (rlinkS a b ll).2
  else if d = 1 then (if mayB a b then ll.filter (fun m => !isPair a b m) else ll)
  else if d = 4 then (if a < 1 then ll else ll.filter fun m => m.1 != a && m.2 != a)
  else ll

theorem RelP.congr {p p' : PS} {ll : List (Int × Int)} (h : RelP p ll) (hs : ∀ x y, p'.S x y = p.S x y) : RelP p' ll := ⟨fun x y => by rw [hs]; exact h.mem x y, h.low, h.nodup⟩

theorem goneS (a : Int) : ∀ (l : List Int) (fs : (Int → List Int) × (Int → Int → Bool)) (x y : Int), (goneF a l fs).2 x y = (fs.2 x y && l.all fun b => !(x == min a b && y == max a b))
  | [], fs, x, y => by simp [goneF]
  | b :: l, fs, x, y => by
    have hg : goneF a (b :: l) fs = goneF a l (adj2 false a b fs.1, pairS false (min a b) (max a b) fs.2) := rfl
    rw [hg, goneS a l]
    show ((!(x == min a b && y == max a b) && fs.2 x y) && _) = _
    rw [List.all_cons]
    cases (x == min a b && y == max a b) <;> cases fs.2 x y <;> simp

theorem rel_link {p : PS} {ll : List (Int × Int)} (hi : Inv p) (hr : RelP p ll) (a b : Int) : RelP { p with f := (linkS a b p.f p.S).2.1, S := (linkS a b p.f p.S).2.2 } (rlinkS a b ll).2 ∧ (rlinkS a b ll).1 = (linkS a b p.f p.S).1 := by
  unfold rlinkS linkS
  rw [any_same hr, links_same hi hr, links_same hi hr]
  cases hm : mayB a b
  · exact ⟨hr, rfl⟩
  · obtain ⟨h1, h2, h3⟩ := (mayB_iff a b).1 hm
    cases hS : p.S (min a b) (max a b)
    · by_cases hf : 64 ≤ max (p.f a).length (p.f b).length
      · simp only [Bool.not_true, Bool.false_eq_true, if_false, Bool.true_eq_false, hf, and_self, if_true]
        exact ⟨hr, trivial⟩
      · simp only [Bool.not_true, Bool.false_eq_true, if_false, Bool.true_eq_false, hf, and_false]
        refine ⟨⟨fun x y => ?_, fun m hm => ?_, ?_⟩, trivial⟩
        · show (x, y) ∈ ll ++ [(min a b, max a b)] ↔ ((x == min a b && y == max a b) || p.S x y) = true
          rw [List.mem_append, hr.mem, List.mem_singleton, Bool.or_eq_true, Bool.and_eq_true, beq_iff_eq, beq_iff_eq, Prod.mk.injEq]
          exact Or.comm
        · rcases List.mem_append.1 hm with h | h
          · exact hr.low m h
          · rw [List.mem_singleton] at h
            subst h
            show 1 ≤ min a b ∧ min a b < max a b
            omega
        · rw [List.nodup_append]
          refine ⟨hr.nodup, by simp, fun x hx y hy e => ?_⟩
          rw [List.mem_singleton] at hy
          subst hy; subst e
          rw [hr.mem, hS] at hx
          cases hx
    · simp only [Bool.not_true, Bool.false_eq_true, if_false, Bool.true_eq_false, if_true, false_and]
      refine ⟨⟨fun x y => ?_, hr.low, hr.nodup⟩, trivial⟩
      show (x, y) ∈ ll ↔ ((x == min a b && y == max a b) || p.S x y) = true
      rw [hr.mem, Bool.or_eq_true, Bool.and_eq_true, beq_iff_eq, beq_iff_eq]
      constructor
      · exact .inr
      · rintro (⟨rfl, rfl⟩ | h)
        · exact hS
        · exact h
theorem rel_cut {p : PS} {ll : List (Int × Int)} (hr : RelP p ll) (a b : Int) : RelP { p with f := (cutS a b p.f p.S).2.1, S := (cutS a b p.f p.S).2.2 } (if mayB a b then ll.filter (fun m => !isPair a b m) else ll) ∧ (if mayB a b then 0 else 2) = (cutS a b p.f p.S).1 := by
  unfold cutS
  cases hm : mayB a b
  · exact ⟨hr, rfl⟩
  · simp only [if_true, Bool.true_eq_false, if_false]
    refine ⟨⟨fun x y => ?_, fun m hm => hr.low m (List.mem_filter.1 hm).1, hr.nodup.filter _⟩, trivial⟩
    show (x, y) ∈ ll.filter (fun m => !isPair a b m) ↔ (!(x == min a b && y == max a b) && p.S x y) = true
    rw [List.mem_filter, hr.mem, Bool.and_eq_true]
    exact And.comm
theorem rel_gone {p : PS} {ll : List (Int × Int)} (hi : Inv p) (hr : RelP p ll) (a : Int) (f' : Int → List Int) (M' : List (Int × Int × Int)) (n : Int) : RelP ⟨f', (goneF a (p.f a) (p.f, p.S)).2, M', n⟩ (ll.filter fun m => m.1 != a && m.2 != a) := by
  refine ⟨fun x y => ?_, fun m hm => hr.low m (List.mem_filter.1 hm).1, hr.nodup.filter _⟩
  show _ ↔ (goneF a (p.f a) (p.f, p.S)).2 x y = true
  rw [goneS, List.mem_filter, hr.mem, Bool.and_eq_true, Bool.and_eq_true]
  show p.S x y = true ∧ ((x != a) = true ∧ (y != a) = true) ↔ p.S x y = true ∧ _
  refine and_congr_right fun hs => ?_
  have hl := hr.low _ ((hr.mem x y).2 hs)
  simp only at hl
  rw [List.all_eq_true, bne_iff_ne, bne_iff_ne]
  constructor
  · rintro ⟨h1, h2⟩ b hb
    have hno : ¬ (x = min a b ∧ y = max a b) := fun h => by omega
    cases hc : (x == min a b && y == max a b)
    · rfl
    · simp only [Bool.and_eq_true, beq_iff_eq] at hc
      exact absurd hc hno
  · intro h
    refine ⟨fun e => ?_, fun e => ?_⟩
    · subst e
      have := h y ((hi.sym x y).2 ⟨by omega, by omega, by omega, by rw [show min x y = x from by omega, show max x y = y from by omega]; exact hs⟩)
      rw [show min x y = x from by omega, show max x y = y from by omega] at this
      simp at this
    · subst e
      have := h x ((hi.sym y x).2 ⟨by omega, by omega, by omega, by rw [show min y x = x from by omega, show max y x = y from by omega]; exact hs⟩)
      rw [show min y x = x from by omega, show max y x = y from by omega] at this
      simp at this

theorem rel_ask {p : PS} {ll : List (Int × Int)} (hi : Inv p) (hr : RelP p ll) (d a b : Int) : RelP (askS d a b p).2 (rask d a b ll) := by
  unfold askS rask
  by_cases h0 : d = 0
  · rw [if_pos h0, if_pos h0]
    exact (rel_link hi hr a b).1
  rw [if_neg h0, if_neg h0]
  by_cases h1 : d = 1
  · rw [if_pos h1, if_pos h1]
    exact (rel_cut hr a b).1
  rw [if_neg h1, if_neg h1]
  by_cases h4 : d = 4
  · subst h4
    rw [if_neg (by omega), if_neg (by omega), if_pos rfl, if_pos rfl]
    by_cases ha : a < 1
    · rw [if_pos ha, if_pos ha]
      exact hr
    · rw [if_neg ha, if_neg ha]
      exact rel_gone hi hr a _ _ _
  rw [if_neg h4, if_neg h4]
  by_cases h2 : d = 2
  · rw [if_pos h2]
    exact hr.congr fun _ _ => rfl
  rw [if_neg h2]
  by_cases h3 : d = 3
  · rw [if_pos h3]
    exact hr.congr fun _ _ => rfl
  rw [if_neg h3]
  exact hr.congr fun _ _ => rfl

def rafter (l : List (Int × Int × Int)) : List (Int × Int) := l.foldl (fun ll x => rask x.1 x.2.1 x.2.2 ll) []
theorem rafter_take {l : List (Int × Int × Int)} {k : Nat} (hk : k < l.length) : rafter (l.take (k + 1)) = rask l[k].1 l[k].2.1 l[k].2.2 (rafter (l.take k)) := by
  unfold rafter
  rw [List.take_succ_eq_append_getElem hk, List.foldl_append]
  rfl
theorem rel0 : RelP p0 [] := ⟨fun x y => by simp [p0], fun m hm => (by cases hm), List.nodup_nil⟩
theorem rel_after (l : List (Int × Int × Int)) : ∀ k, k ≤ l.length → RelP (after (l.take k)) (rafter (l.take k)) ∧ (rafter (l.take k)).length ≤ k ∧ (after (l.take k)).M.length ≤ k
  | 0, _ => ⟨rel0, Nat.le_refl _, Nat.le_refl _⟩
  | k + 1, hk => by
    have hk' : k < l.length := by omega
    obtain ⟨h1, h2, h3⟩ := rel_after l k (by omega)
    rw [after_take hk', rafter_take hk']
    refine ⟨rel_ask (inv_after _) h1 _ _ _, ?_, ?_⟩
    · generalize rafter (l.take k) = ll at h2
      unfold rask rlinkS
      repeat' split
      all_goals first
        | omega
        | (simp only [List.length_append, List.length_cons, List.length_nil]; omega)
        | (refine Nat.le_trans (List.length_filter_le _ _) ?_; omega)
    · generalize after (l.take k) = p at h3
      unfold askS watchS
      repeat' split
      all_goals first
        | (simp only; omega)
        | (simp only [List.length_append, List.length_cons, List.length_nil]; omega)
        | (refine Nat.le_trans (List.length_filter_le _ _) ?_; omega)
end Go.Proofs.Ytjkdmdddgiomjaa
