/-
  The law on refusals as errors, by cases of the refusal's number. Condition: what strconv.Itoa tells is short.
-/
import Derived.Test.YtfabiccdolpemaaGreatDoorTw2
namespace Go.Proofs.YtfabiccdolpemaaGreatDoor.Tw
open Go.RowKit Sx
/-- strconv.Itoa tells some short text of each number. -/
def ItoaOk : Prop := ∀ n : Int, -9223372036854775808 ≤ n → n ≤ 9223372036854775807 → ∃ l : List Nat, Pu 138 [.i .i64 n] (.s l) ∧ l.length ≤ 21
theorem two_eq (m n : Int) : (decide (decide (m = n) = decide (n = m))) = true := decide_eq_true (by
  by_cases e : m = n
  · subst e; rfl
  · rw [decide_eq_false e, decide_eq_false fun h => e h.symm])
set_option maxRecDepth 100000 in
theorem why60 (hI : ItoaOk) (t n : Int) (ht : -9223372036854775808 ≤ t ∧ t ≤ 9223372036854775807) : Pu 3 [(.ag [(.i .i64 60), (.i .i64 t)]), (.i .i64 n)] (.b true) := by
  obtain ⟨l1, i1, k1⟩ := hI 6 (by decide) (by decide)
  obtain ⟨l2, i2, k2⟩ := hI t ht.1 ht.2
  obtain ⟨l3, i3, k3⟩ := hI 60 (by decide) (by decide)
  apply tw60_p1 (vIs0 := decide ((60 : Int) = n)) (vItoa1 := l1) (vItoa2 := l2) (vItoa3 := l3)
  all_goals first
    | exact is_pu _ _ _ _
    | exact i1
    | exact i2
    | exact i3
    | exact wakes_pu
    | exact two_eq _ _
    | (refine decide_eq_true ?_; simp only [List.length_append, List.length_cons, List.length_nil]; omega)
    | (simp; done)
    | (refine decide_eq_true ?_; simp only [List.length_append, List.length_cons, List.length_nil, Int.ofNat_eq_natCast]; omega)
set_option maxRecDepth 100000 in
theorem why80 (hI : ItoaOk) (t n : Int) (ht : -9223372036854775808 ≤ t ∧ t ≤ 9223372036854775807) : Pu 3 [(.ag [(.i .i64 80), (.i .i64 t)]), (.i .i64 n)] (.b true) := by
  obtain ⟨l1, i1, k1⟩ := hI 8 (by decide) (by decide)
  obtain ⟨l2, i2, k2⟩ := hI t ht.1 ht.2
  obtain ⟨l3, i3, k3⟩ := hI 80 (by decide) (by decide)
  apply tw80_p1 (vIs0 := decide ((80 : Int) = n)) (vItoa1 := l1) (vItoa2 := l2) (vItoa3 := l3)
  all_goals first
    | exact is_pu _ _ _ _
    | exact i1
    | exact i2
    | exact i3
    | exact wakes_pu
    | exact two_eq _ _
    | (refine decide_eq_true ?_; simp only [List.length_append, List.length_cons, List.length_nil]; omega)
    | (simp; done)
    | (refine decide_eq_true ?_; simp only [List.length_append, List.length_cons, List.length_nil, Int.ofNat_eq_natCast]; omega)
set_option maxRecDepth 100000 in
theorem why90 (hI : ItoaOk) (t n : Int) (ht : -9223372036854775808 ≤ t ∧ t ≤ 9223372036854775807) : Pu 3 [(.ag [(.i .i64 90), (.i .i64 t)]), (.i .i64 n)] (.b true) := by
  obtain ⟨l1, i1, k1⟩ := hI 9 (by decide) (by decide)
  obtain ⟨l2, i2, k2⟩ := hI t ht.1 ht.2
  obtain ⟨l3, i3, k3⟩ := hI 90 (by decide) (by decide)
  apply tw90_p1 (vIs0 := decide ((90 : Int) = n)) (vItoa1 := l1) (vItoa2 := l2) (vItoa3 := l3)
  all_goals first
    | exact is_pu _ _ _ _
    | exact i1
    | exact i2
    | exact i3
    | exact wakes_pu
    | exact two_eq _ _
    | (refine decide_eq_true ?_; simp only [List.length_append, List.length_cons, List.length_nil]; omega)
    | (simp; done)
    | (refine decide_eq_true ?_; simp only [List.length_append, List.length_cons, List.length_nil, Int.ofNat_eq_natCast]; omega)
set_option maxRecDepth 100000 in
theorem why91 (hI : ItoaOk) (t n : Int) (ht : -9223372036854775808 ≤ t ∧ t ≤ 9223372036854775807) : Pu 3 [(.ag [(.i .i64 91), (.i .i64 t)]), (.i .i64 n)] (.b true) := by
  obtain ⟨l1, i1, k1⟩ := hI 9 (by decide) (by decide)
  obtain ⟨l2, i2, k2⟩ := hI t ht.1 ht.2
  obtain ⟨l3, i3, k3⟩ := hI 91 (by decide) (by decide)
  apply tw91_p1 (vIs0 := decide ((91 : Int) = n)) (vItoa1 := l1) (vItoa2 := l2) (vItoa3 := l3)
  all_goals first
    | exact is_pu _ _ _ _
    | exact i1
    | exact i2
    | exact i3
    | exact wakes_pu
    | exact two_eq _ _
    | (refine decide_eq_true ?_; simp only [List.length_append, List.length_cons, List.length_nil]; omega)
    | (simp; done)
    | (refine decide_eq_true ?_; simp only [List.length_append, List.length_cons, List.length_nil, Int.ofNat_eq_natCast]; omega)
set_option maxRecDepth 100000 in
theorem why92 (hI : ItoaOk) (t n : Int) (ht : -9223372036854775808 ≤ t ∧ t ≤ 9223372036854775807) : Pu 3 [(.ag [(.i .i64 92), (.i .i64 t)]), (.i .i64 n)] (.b true) := by
  obtain ⟨l1, i1, k1⟩ := hI 9 (by decide) (by decide)
  obtain ⟨l2, i2, k2⟩ := hI t ht.1 ht.2
  obtain ⟨l3, i3, k3⟩ := hI 92 (by decide) (by decide)
  apply tw92_p1 (vIs0 := decide ((92 : Int) = n)) (vItoa1 := l1) (vItoa2 := l2) (vItoa3 := l3)
  all_goals first
    | exact is_pu _ _ _ _
    | exact i1
    | exact i2
    | exact i3
    | exact wakes_pu
    | exact two_eq _ _
    | (refine decide_eq_true ?_; simp only [List.length_append, List.length_cons, List.length_nil]; omega)
    | (simp; done)
    | (refine decide_eq_true ?_; simp only [List.length_append, List.length_cons, List.length_nil, Int.ofNat_eq_natCast]; omega)
set_option maxRecDepth 100000 in
theorem why250 (hI : ItoaOk) (t n : Int) (ht : -9223372036854775808 ≤ t ∧ t ≤ 9223372036854775807) : Pu 3 [(.ag [(.i .i64 250), (.i .i64 t)]), (.i .i64 n)] (.b true) := by
  obtain ⟨l1, i1, k1⟩ := hI 25 (by decide) (by decide)
  obtain ⟨l2, i2, k2⟩ := hI t ht.1 ht.2
  obtain ⟨l3, i3, k3⟩ := hI 250 (by decide) (by decide)
  apply tw250_p1 (vIs0 := decide ((250 : Int) = n)) (vItoa1 := l1) (vItoa2 := l2) (vItoa3 := l3)
  all_goals first
    | exact is_pu _ _ _ _
    | exact i1
    | exact i2
    | exact i3
    | exact wakes_pu
    | exact two_eq _ _
    | (refine decide_eq_true ?_; simp only [List.length_append, List.length_cons, List.length_nil]; omega)
    | (simp; done)
    | (refine decide_eq_true ?_; simp only [List.length_append, List.length_cons, List.length_nil, Int.ofNat_eq_natCast]; omega)
set_option maxRecDepth 100000 in
theorem whyOther (hI : ItoaOk) (m t n : Int) (hm : -9223372036854775808 ≤ m ∧ m ≤ 9223372036854775807) (ht : -9223372036854775808 ≤ t ∧ t ≤ 9223372036854775807) (h0 : m ≠ 0) (h1 : m ≠ 60) (h2 : m ≠ 80) (h3 : m ≠ 90) (h4 : m ≠ 91) (h5 : m ≠ 92) (h6 : m ≠ 250) : Pu 3 [(.ag [(.i .i64 m), (.i .i64 t)]), (.i .i64 n)] (.b true) := by
  obtain ⟨l1, i1, k1⟩ := hI 30 (by decide) (by decide)
  obtain ⟨l2, i2, k2⟩ := hI t ht.1 ht.2
  obtain ⟨l3, i3, k3⟩ := hI m hm.1 hm.2
  have no : ∀ k : Int, m ≠ k → Pu 10 [.ifc 30 (.ep 34 0 [.i 30, .i m, .i t]), .ifc 22 (.i .i64 k)] (.b false) := fun k hk => by
    have := is_pu 30 m t k
    rwa [decide_eq_false hk] at this
  have yes : Pu 10 [.ifc 30 (.ep 34 0 [.i 30, .i m, .i t]), .ifc 22 (.i .i64 m)] (.b true) := by
    have := is_pu 30 m t m
    rwa [decide_eq_true rfl] at this
  apply twm_p11 (vIs1 := decide (m = n)) (vItoa2 := l1) (vItoa3 := l2) (vItoa4 := l3)
  all_goals first
    | exact no _ (by assumption)
    | exact yes
    | exact is_pu _ _ _ _
    | exact i1
    | exact i2
    | exact i3
    | exact wakes_pu
    | exact two_eq _ _
    | exact decide_eq_false (by assumption)
    | (refine decide_eq_true ?_; simp only [List.length_append, List.length_cons, List.length_nil]; omega)
    | (simp; done)
    | (refine decide_eq_true ?_; simp only [List.length_append, List.length_cons, List.length_nil, Int.ofNat_eq_natCast]; omega)
set_option maxRecDepth 100000 in
theorem whyNone (t n : Int) : Pu 3 [(.ag [(.i .i64 0), (.i .i64 t)]), (.i .i64 n)] (.b true) := by
  apply twm_p0
  all_goals first
    | exact wakes_pu
    | rfl
    | (simp; done)
/-- The law, whatever the refusal. -/
theorem why_pu (hI : ItoaOk) (m t n : Int) (hm : -9223372036854775808 ≤ m ∧ m ≤ 9223372036854775807) (ht : -9223372036854775808 ≤ t ∧ t ≤ 9223372036854775807) : Pu 3 [(.ag [(.i .i64 m), (.i .i64 t)]), (.i .i64 n)] (.b true) := by
  by_cases h0 : m = 0
  · subst h0; exact whyNone t n
  by_cases h1 : m = 60
  · subst h1; exact why60 hI t n ht
  by_cases h2 : m = 80
  · subst h2; exact why80 hI t n ht
  by_cases h3 : m = 90
  · subst h3; exact why90 hI t n ht
  by_cases h4 : m = 91
  · subst h4; exact why91 hI t n ht
  by_cases h5 : m = 92
  · subst h5; exact why92 hI t n ht
  by_cases h6 : m = 250
  · subst h6; exact why250 hI t n ht
  exact whyOther hI m t n hm ht h0 h1 h2 h3 h4 h5 h6
end Go.Proofs.YtfabiccdolpemaaGreatDoor.Tw
