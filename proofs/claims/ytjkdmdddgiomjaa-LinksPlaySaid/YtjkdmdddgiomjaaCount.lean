/-
  The plain law, part two: which acts raise the reference, and what is left of who is gone. No program in sight. No condition.
-/
import Derived.Test.YtjkdmdddgiomjaaSame
namespace Go.Proofs.Ytjkdmdddgiomjaa
open Go.RowKit Go.Maps

def counts (d a b : Int) (p : PS) : Bool := (d == 2 || decide (4 < d) || decide (d < 0)) && (askS d a b p).1.e == 0

theorem counts_yes {d a b : Int} {p : PS} (h : counts d a b p = true) : (askS d a b p).1.n = (askS d a b p).2.last ∧ p.last < (askS d a b p).2.last := by
  unfold counts at h
  simp only [Bool.and_eq_true, Bool.or_eq_true, beq_iff_eq, decide_eq_true_eq] at h
  obtain ⟨hd, he⟩ := h
  by_cases h2 : d = 2
  · subst h2
    have hr : askS 2 a b p = (⟨(watchS p.M p.last a b).1, false, [], [], (watchS p.M p.last a b).2.1⟩, { p with M := (watchS p.M p.last a b).2.2.1, last := (watchS p.M p.last a b).2.2.2 }) := rfl
    rw [hr] at he ⊢
    simp only at he ⊢
    unfold watchS at he ⊢
    split at he
    · simp at he
    · split at he
      · simp at he
      · rename_i h3 h4
        rw [if_neg h3, if_neg h4]
        exact ⟨rfl, by show p.last < p.last + 1; omega⟩
  · have hr : askS d a b p = (⟨p.last + 1, false, [], [], 0⟩, { p with last := p.last + 1 }) := by
      unfold askS
      rw [if_neg (by omega), if_neg (by omega), if_neg (by omega), if_neg (by omega), if_neg (by omega)]
    rw [hr]
    exact ⟨rfl, by show p.last < p.last + 1; omega⟩
theorem counts_no {d a b : Int} {p : PS} (h : counts d a b p = false) : (askS d a b p).2.last = p.last := by
  by_cases h0 : d = 0
  · subst h0; rfl
  by_cases h1 : d = 1
  · subst h1; rfl
  by_cases h3 : d = 3
  · subst h3; rfl
  by_cases h4 : d = 4
  · subst h4
    have hr : askS 4 a b p = (if a < 1 then (⟨0, false, [], [], 2⟩, p) else (⟨0, false, p.f a, p.M.filter (fun m => m.2.2 == a), 0⟩, { f := (goneF a (p.f a) (p.f, p.S)).1, S := (goneF a (p.f a) (p.f, p.S)).2, M := p.M.filter (fun m => !(m.2.1 == a || m.2.2 == a)), last := p.last })) := rfl
    rw [hr]
    split <;> rfl
  by_cases h2 : d = 2
  · subst h2
    have hr : askS 2 a b p = (⟨(watchS p.M p.last a b).1, false, [], [], (watchS p.M p.last a b).2.1⟩, { p with M := (watchS p.M p.last a b).2.2.1, last := (watchS p.M p.last a b).2.2.2 }) := rfl
    unfold counts at h
    rw [hr] at h ⊢
    simp only at h ⊢
    unfold watchS at h ⊢
    split
    · rfl
    · split
      · rfl
      · rename_i h5 h6
        rw [if_neg h5, if_neg h6] at h
        simp at h
  · exfalso
    unfold counts askS at h
    rw [if_neg h0, if_neg h1, if_neg h2, if_neg h3, if_neg h4] at h
    simp [h2] at h
    omega

theorem goneF_at {a : Int} : ∀ (l : List Int) (fs : (Int → List Int) × (Int → Int → Bool)), (∀ b ∈ l, a ≠ b) → (goneF a l fs).1 a = (fs.1 a).filter fun z => decide (z ∉ l)
  | [], fs, _ => (List.filter_eq_self.2 fun z _ => by simp).symm
  | b :: l, fs, h => by
    have hab := h b (by simp)
    have ih := goneF_at l (adj2 false a b fs.1, pairS false (min a b) (max a b) fs.2) fun c hc => h c (List.mem_cons_of_mem _ hc)
    have hg : goneF a (b :: l) fs = goneF a l (adj2 false a b fs.1, pairS false (min a b) (max a b) fs.2) := rfl
    rw [hg, ih]
    show List.filter _ (adj2 false a b fs.1 a) = _
    rw [adj2_eq false hab, if_neg hab, if_pos rfl]
    show List.filter _ (delK b (fs.1 a)) = _
    unfold delK
    rw [List.filter_filter]
    congr 1
    funext z
    by_cases hz : z = b
    · subst hz; simp
    · simp [hz]

theorem ask_gone {a b : Int} {p : PS} (hi : Inv p) (he : (askS 4 a b p).1.e = 0) : (askS 4 a b p).2.f a = [] ∧ ((askS 4 a b p).2.M.filter fun m => m.2.1 == a) = [] ∧ ((askS 4 a b p).2.M.filter fun m => m.2.2 == a) = [] := by
  have hr : askS 4 a b p = (if a < 1 then (⟨0, false, [], [], 2⟩, p) else (⟨0, false, p.f a, p.M.filter (fun m => m.2.2 == a), 0⟩, { f := (goneF a (p.f a) (p.f, p.S)).1, S := (goneF a (p.f a) (p.f, p.S)).2, M := p.M.filter (fun m => !(m.2.1 == a || m.2.2 == a)), last := p.last })) := rfl
  rw [hr] at he ⊢
  split at he
  · simp at he
  · rename_i ha
    rw [if_neg ha]
    refine ⟨?_, ?_, ?_⟩
    · show (goneF a (p.f a) (p.f, p.S)).1 a = []
      rw [goneF_at _ _ fun b hb => ((hi.sym a b).1 hb).2.2.1]
      exact List.filter_eq_nil_iff.2 fun z hz => by simp [hz]
    · simp only [List.filter_filter]
      exact List.filter_eq_nil_iff.2 fun m _ => by by_cases h : m.2.1 = a <;> simp [h]
    · simp only [List.filter_filter]
      exact List.filter_eq_nil_iff.2 fun m _ => by by_cases h : m.2.2 = a <;> simp [h]
theorem after_take {l : List (Int × Int × Int)} {k : Nat} (hk : k < l.length) : after (l.take (k + 1)) = (askS l[k].1 l[k].2.1 l[k].2.2 (after (l.take k))).2 := by
  rw [List.take_succ_eq_append_getElem hk, after_snoc]
theorem last_take {l : List (Int × Int × Int)} {k : Nat} (hk : k ≤ l.length) : (after (l.take k)).last ≤ k := by
  have := last_after (l.take k)
  rw [List.length_take, Nat.min_eq_left hk] at this
  exact this
end Go.Proofs.Ytjkdmdddgiomjaa
