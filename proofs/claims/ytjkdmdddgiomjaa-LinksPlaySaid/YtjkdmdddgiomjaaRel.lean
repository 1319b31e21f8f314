/-
  The plain law, part three: the reference's answers are the web's. No program in sight. No condition.
-/
import Derived.Test.YtjkdmdddgiomjaaRef9
namespace Go.Proofs.Ytjkdmdddgiomjaa
open Go.RowKit Go.Maps

structure RelP (p : PS) (ll : List (Int × Int)) : Prop where
  mem : ∀ x y, (x, y) ∈ ll ↔ p.S x y = true
  low : ∀ m ∈ ll, 1 ≤ m.1 ∧ m.1 < m.2
  nodup : ll.Nodup

theorem mem_putS {n z : Int} : ∀ {l : List Int}, z ∈ putS n l ↔ z = n ∨ z ∈ l
  | [] => by simp [putS]
  | x :: r => by
    unfold putS
    split
    · simp
    · rw [List.mem_cons, mem_putS (l := r), List.mem_cons]
      constructor
      · rintro (h | h | h)
        · exact .inr (.inl h)
        · exact .inl h
        · exact .inr (.inr h)
      · rintro (h | h | h)
        · exact .inr (.inl h)
        · exact .inl h
        · exact .inr (.inr h)
theorem srt_putS {n : Int} : ∀ {l : List Int}, l.Pairwise (· < ·) → n ∉ l → (putS n l).Pairwise (· < ·)
  | [], _, _ => List.pairwise_singleton _ _
  | x :: r, h, hn => by
    have h1 := (List.pairwise_cons.1 h).1
    have h2 := (List.pairwise_cons.1 h).2
    unfold putS
    split
    · refine List.pairwise_cons.2 ⟨fun z hz => ?_, h⟩
      rcases List.mem_cons.1 hz with rfl | hz
      · assumption
      · have := h1 z hz; omega
    · refine List.pairwise_cons.2 ⟨fun z hz => ?_, srt_putS h2 fun hh => hn (List.mem_cons_of_mem _ hh)⟩
      rcases mem_putS.1 hz with rfl | hz
      · have : z ≠ x := fun e => hn (e ▸ List.mem_cons_self)
        omega
      · exact h1 z hz
theorem srt_ext : ∀ {l l' : List Int}, l.Pairwise (· < ·) → l'.Pairwise (· < ·) → (∀ z, z ∈ l ↔ z ∈ l') → l = l'
  | [], [], _, _, _ => rfl
  | [], y :: r, _, _, h => absurd ((h y).2 List.mem_cons_self) (by simp)
  | x :: r, [], _, _, h => absurd ((h x).1 List.mem_cons_self) (by simp)
  | x :: r, y :: s, h1, h2, h => by
    obtain ⟨a1, a2⟩ := List.pairwise_cons.1 h1
    obtain ⟨b1, b2⟩ := List.pairwise_cons.1 h2
    have hxy : x = y := by
      rcases List.mem_cons.1 ((h x).1 List.mem_cons_self) with e | e
      · exact e
      · rcases List.mem_cons.1 ((h y).2 List.mem_cons_self) with e' | e'
        · exact e'.symm
        · have := b1 x e; have := a1 y e'; omega
    subst hxy
    congr 1
    refine srt_ext a2 b2 fun z => ?_
    constructor
    · intro hz
      rcases List.mem_cons.1 ((h z).1 (List.mem_cons_of_mem _ hz)) with e | e
      · subst e; have := a1 z hz; omega
      · exact e
    · intro hz
      rcases List.mem_cons.1 ((h z).2 (List.mem_cons_of_mem _ hz)) with e | e
      · subst e; have := b1 z hz; omega
      · exact e

theorem mem_linkStep {a z : Int} {o : List Int} {m : Int × Int} : z ∈ linkStep a o m ↔ (m = (a, z) ∨ m = (z, a)) ∨ z ∈ o := by
  obtain ⟨x, y⟩ := m
  unfold linkStep
  by_cases h1 : x = a <;> by_cases h2 : y = a <;> simp only [h1, h2, beq_self_eq_true, if_true, beq_iff_eq, if_false, Prod.mk.injEq, mem_putS, true_and, and_true, false_and, and_false, or_false, false_or]
  · constructor
    · rintro (h | h | h)
      · exact .inl (.inl h.symm)
      · exact .inl (.inl h.symm)
      · exact .inr h
    · rintro ((h | h) | h)
      · exact .inl h.symm
      · exact .inl h.symm
      · exact .inr (.inr h)
  · constructor
    · rintro (h | h)
      · exact .inl h.symm
      · exact .inr h
    · rintro (h | h)
      · exact .inl h.symm
      · exact .inr h
  · constructor
    · rintro (h | h)
      · exact .inl h.symm
      · exact .inr h
    · rintro (h | h)
      · exact .inl h.symm
      · exact .inr h
theorem linksR_law {a : Int} {ll : List (Int × Int)} (hlow : ∀ m ∈ ll, m.1 < m.2) (hnd : ll.Nodup) : ∀ k, k ≤ ll.length → (linksR a (ll.take k)).Pairwise (· < ·) ∧ ∀ z, z ∈ linksR a (ll.take k) ↔ ((a, z) ∈ ll.take k ∨ (z, a) ∈ ll.take k)
  | 0, _ => by simp [linksR]
  | k + 1, hk => by
    obtain ⟨h1, h2⟩ := linksR_law (a := a) hlow hnd k (by omega)
    have hk' : k < ll.length := by omega
    have hmem : ll[k] ∈ ll := List.getElem_mem hk'
    have hnot : ll[k] ∉ ll.take k := by
      have hn : (ll.take (k + 1)).Nodup := List.Nodup.sublist (List.take_sublist _ _) hnd
      rw [List.take_succ_eq_append_getElem hk', List.nodup_append] at hn
      exact fun hm => hn.2.2 _ hm _ (by simp) rfl
    have hl := hlow _ hmem
    have hsub : ∀ m ∈ ll.take k, m.1 < m.2 := fun m hm => hlow m (List.mem_of_mem_take hm)
    rw [linksR_succ hk']
    refine ⟨?_, fun z => ?_⟩
    · generalize hm : ll[k] = m at hl hnot
      obtain ⟨x, y⟩ := m
      unfold linkStep
      by_cases e1 : x = a <;> by_cases e2 : y = a
      · subst e1; subst e2; simp at hl
      · subst e1
        have e2' : (y == x) = false := by simpa using e2
        simp only [beq_self_eq_true, if_true, e2', Bool.false_eq_true, if_false]
        refine srt_putS h1 fun hz => ?_
        rcases (h2 y).1 hz with h | h
        · exact hnot h
        · have := hsub _ h; simp only at this hl; omega
      · subst e2
        have e1' : (x == y) = false := by simpa using e1
        simp only [beq_self_eq_true, if_true, e1', Bool.false_eq_true, if_false]
        refine srt_putS h1 fun hz => ?_
        rcases (h2 x).1 hz with h | h
        · have := hsub _ h; simp only at this hl; omega
        · exact hnot h
      · have e1' : (x == a) = false := by simpa using e1
        have e2' : (y == a) = false := by simpa using e2
        simp only [e1', e2', Bool.false_eq_true, if_false]
        exact h1
    · rw [mem_linkStep, h2, List.take_succ_eq_append_getElem hk']
      simp only [List.mem_append, List.mem_singleton]
      constructor
      · rintro ((h | h) | (h | h))
        · exact .inl (.inr h.symm)
        · exact .inr (.inr h.symm)
        · exact .inl (.inl h)
        · exact .inr (.inl h)
      · rintro ((h | h) | (h | h))
        · exact .inr (.inl h)
        · exact .inl (.inl h.symm)
        · exact .inr (.inr h)
        · exact .inl (.inr h.symm)
/-- The reference's links are the web's. -/
theorem links_same {p : PS} {ll : List (Int × Int)} (hi : Inv p) (hr : RelP p ll) (a : Int) : linksR a ll = p.f a := by
  have h := linksR_law (a := a) (fun m hm => (hr.low m hm).2) hr.nodup ll.length (Nat.le_refl _)
  rw [List.take_length] at h
  refine srt_ext h.1 (hi.srt a) fun z => ?_
  rw [h.2, hi.sym]
  constructor
  · rintro (h | h)
    · have h1 := hr.low _ h
      simp only at h1
      have hs := (hr.mem _ _).1 h
      exact ⟨h1.1, by omega, by omega, by rw [show min a z = a from by omega, show max a z = z from by omega]; exact hs⟩
    · have h1 := hr.low _ h
      simp only at h1
      have hs := (hr.mem _ _).1 h
      exact ⟨by omega, h1.1, by omega, by rw [show min a z = z from by omega, show max a z = a from by omega]; exact hs⟩
  · rintro ⟨h1, h2, h3, h4⟩
    by_cases h5 : a < z
    · rw [show min a z = a from by omega, show max a z = z from by omega] at h4
      exact .inl ((hr.mem _ _).2 h4)
    · rw [show min a z = z from by omega, show max a z = a from by omega] at h4
      exact .inr ((hr.mem _ _).2 h4)
theorem any_same {p : PS} {ll : List (Int × Int)} (hr : RelP p ll) (a b : Int) : ll.any (isPair a b) = p.S (min a b) (max a b) := by
  have h : ll.any (isPair a b) = true ↔ p.S (min a b) (max a b) = true := by
    rw [← hr.mem, List.any_eq_true]
    constructor
    · rintro ⟨⟨x, y⟩, h1, h2⟩
      simp only [isPair, Bool.and_eq_true, beq_iff_eq] at h2
      rw [← h2.1, ← h2.2]; exact h1
    · exact fun h => ⟨_, h, by simp [isPair]⟩
  cases h1 : ll.any (isPair a b) <;> cases h2 : p.S (min a b) (max a b) <;> simp_all
end Go.Proofs.Ytjkdmdddgiomjaa
