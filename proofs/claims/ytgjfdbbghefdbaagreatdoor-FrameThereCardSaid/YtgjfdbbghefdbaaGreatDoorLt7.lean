/-
  Frames in memory of a call's own read as data in the world's cells. Conditions: as said.
-/
import Derived.Test.YtgjfdbbghefdbaaGreatDoorLt6
namespace Go.Proofs.YtgjfdbbghefdbaaGreatDoor.Lt
open Go.RowKit Sx Dd Fa Fa.C1
set_option maxRecDepth 100000
theorem le_mem {M : Mem} {w : World} (h : MemOk M w) : M.le (memOf w) := fun b c e => by
  obtain ⟨ty, fz, e1⟩ := h b c e
  exact memOf_at e1
theorem good_mono {M M' : Mem} (h : M.le M') {ks : List Kd} {row : List Dat} {cs : List Value} (g : Dd.Good lay M ks row cs) : Dd.Good lay M' ks row cs := ⟨g.l1, g.l2, fun j k u v h1 h2 h3 => (g.dr j k u v h1 h2 h3).mono h⟩
theorem OwnSl.dr {w : World} {M : Mem} {lo hi T : Nat} {d : Dat} {v : Value} (h : OwnSl w M lo hi T d v) (hM : M.le (memOf w)) : DR lay (memOf w) (.sl T) d v := by
  obtain ⟨xs, ⟨hx, ho⟩, _, hr⟩ := h
  rcases ho with ⟨rfl, e⟩ | ⟨g, cap, cur, rfl, _, q3, q4, _, q6, q7⟩
  · exact .nil T d none 0 (List.length_eq_zero_iff.1 e)
  · have hat : ∀ (i : Nat) (row : List Dat), d.rows[i]? = some row → ∀ j, j < (lay T).length → i * (lay T).length + j < d.rows.length * (lay T).length ∧ i * (lay T).length + j < cur.size := fun i row hi j hj => by
      have hin : i < d.rows.length := (List.getElem?_eq_some_iff.1 hi).1
      have h1 : (i + 1) * (lay T).length ≤ d.rows.length * (lay T).length := Nat.mul_le_mul_right _ hin
      have h2 : d.rows.length * (lay T).length ≤ cap * (lay T).length := Nat.mul_le_mul_right _ q4
      rw [Nat.add_mul, Nat.one_mul] at h1
      exact ⟨by omega, by omega⟩
    refine .sl T d g 0 cap (fun i j => cur.getD (i * (lay T).length + j) undef) q4 (fun i row hi => (hr i row hi).l1) (fun i row hi j hj => ⟨cur, memOf_at q3, ?_⟩) (fun i row hi j k u hk hu => ?_)
    · have := (hat i row hi j hj).2
      rw [Nat.zero_add, Array.getElem?_eq_getElem this]
      simp [Array.getD_eq_getD_getElem?, this]
    · have hj : j < (lay T).length := (List.getElem?_eq_some_iff.1 hk).1
      obtain ⟨a1, a2⟩ := hat i row hi j hj
      refine ((hr i row hi).dr j k u _ hk hu ?_).mono hM
      rw [List.getElem?_take_of_lt hj, List.getElem?_drop, ← q7, List.getElem?_take_of_lt a1, Array.getElem?_toList, Array.getElem?_eq_getElem a2]
      simp [Array.getD_eq_getD_getElem?, a2]
theorem FrRow.good {w : World} {M : Mem} {lo hi : Nat} {row : List Dat} {cs : List Value} (h : FrRow w M lo hi row cs) (hM : M.le (memOf w)) : Dd.Good lay (memOf w) (lay 43) row cs := by
  refine ⟨h.l1, h.l2, fun j k u v hk hu hv => ?_⟩
  have eu : u = row.getD j .o := by simp [List.getD_eq_getElem?_getD, hu]
  have ev : v = cs.getD j undef := by simp [List.getD_eq_getElem?_getD, hv]
  subst eu
  subst ev
  by_cases hn : j ≠ 3 ∧ j ≠ 4 ∧ j ≠ 5 ∧ j ≠ 6 ∧ j ≠ 28 ∧ j ≠ 33 ∧ j ≠ 34
  · exact (h.same j k hn hk).mono hM
  · obtain ⟨a1, a2, a3, a4, a5, a6, _, _, _, _, _, _, _, h1, h2, h3, h4, h5, h6, h7⟩ := h.own
    have hc : j = 3 ∨ j = 4 ∨ j = 5 ∨ j = 6 ∨ j = 28 ∨ j = 33 ∨ j = 34 := by omega
    rcases hc with rfl | rfl | rfl | rfl | rfl | rfl | rfl <;> cases hk
    · exact h1.dr hM
    · exact h2.dr hM
    · exact h3.dr hM
    · exact h4.dr hM
    · exact h5.dr hM
    · exact h6.dr hM
    · exact h7.dr hM
/-- A stack in memory of the call's own reads as its data. -/
theorem StRow.dr {w : World} {M : Mem} {B n k : Nat} {d : Dat} {f : Nat → Value} {g : Nat → Nat} (h : StRow w M B n k d.rows f g) (hk : d.rows.length ≤ k) (hn : k ≤ n) (hM : M.le (memOf w)) : DR lay (memOf w) (.sl 43) d (.slice (some ⟨B, 0, none⟩) d.rows.length n) := by
  obtain ⟨⟨C, e1, e2, e3⟩, _, _, h4⟩ := h
  have hrow : ∀ (i : Nat) (row : List Dat), d.rows[i]? = some row → i < k ∧ Dd.Good lay (memOf w) (lay 43) row (cut f i) := fun i row hi => by
    have hin : i < d.rows.length := (List.getElem?_eq_some_iff.1 hi).1
    have hik : i < k := by omega
    obtain ⟨_, _, r, a3, a4⟩ := h4 i hik
    rw [hi] at a3
    cases a3
    exact ⟨hik, a4.good hM⟩
  refine .sl _ d B 0 n (fun i j => f (i * 35 + j)) (by omega) (fun i row hi => (hrow i row hi).2.l1) (fun i row hi j hj => ⟨C, memOf_at e1, ?_⟩) (fun i row hi j k' u hk' hu => ?_)
  · have hj : j < 35 := hj
    have hik := (hrow i row hi).1
    rw [Nat.zero_add]
    exact e3 _ (by show i * 35 + j < n * 35; omega)
  · have hj : j < 35 := (List.getElem?_eq_some_iff.1 hk').1
    refine (hrow i row hi).2.dr j k' u _ hk' hu ?_
    rw [cut, List.getElem?_map, List.getElem?_range hj]
    rfl
/-- Memory that stays, and what a call that began at size s has made. -/
def memAll (M : Mem) (s : Nat) (w : World) : Mem := fun b => if b < s then M b else memOf w b
/-- What a call leaves that reads as data tells a contract. -/
theorem memAll_ok {M : Mem} {w w' : World} (hM : MemOk M w) (hb : Below w.heap.size w w') : M.le (memAll M w.heap.size w') ∧ (∀ b c, memAll M w.heap.size w' b = some c → M b = some c ∨ w.heap.size ≤ b) ∧ MemOk (memAll M w.heap.size w') w' := by
  refine ⟨fun b c e => ?_, fun b c e => ?_, fun b c e => ?_⟩
  · obtain ⟨ty, fz, e1⟩ := hM b c e
    have hlt := (Array.getElem?_eq_some_iff.1 e1).1
    unfold memAll
    rw [if_pos hlt]
    exact e
  · unfold memAll at e
    by_cases h : b < w.heap.size
    · rw [if_pos h] at e; exact .inl e
    · exact .inr (by omega)
  · unfold memAll at e
    by_cases h : b < w.heap.size
    · rw [if_pos h] at e
      exact memOk_below hM hb b c e
    · rw [if_neg h] at e
      exact memOf_ok w' b c e
theorem OwnSl.drN {w : World} {M M' : Mem} {lo hi T : Nat} {d : Dat} {v : Value} (h : OwnSl w M lo hi T d v) (hM : M.le M') (hg : ∀ g c, lo ≤ g → memOf w g = some c → M' g = some c) : DR lay M' (.sl T) d v := by
  obtain ⟨xs, ⟨hx, ho⟩, _, hr⟩ := h
  rcases ho with ⟨rfl, e⟩ | ⟨g, cap, cur, rfl, q2, q3, q4, _, q6, q7⟩
  · exact .nil T d none 0 (List.length_eq_zero_iff.1 e)
  · have hat : ∀ (i : Nat) (row : List Dat), d.rows[i]? = some row → ∀ j, j < (lay T).length → i * (lay T).length + j < d.rows.length * (lay T).length ∧ i * (lay T).length + j < cur.size := fun i row hi j hj => by
      have hin : i < d.rows.length := (List.getElem?_eq_some_iff.1 hi).1
      have h1 : (i + 1) * (lay T).length ≤ d.rows.length * (lay T).length := Nat.mul_le_mul_right _ hin
      have h2 : d.rows.length * (lay T).length ≤ cap * (lay T).length := Nat.mul_le_mul_right _ q4
      rw [Nat.add_mul, Nat.one_mul] at h1
      exact ⟨by omega, by omega⟩
    refine .sl T d g 0 cap (fun i j => cur.getD (i * (lay T).length + j) undef) q4 (fun i row hi => (hr i row hi).l1) (fun i row hi j hj => ⟨cur, hg g cur q2 (memOf_at q3), ?_⟩) (fun i row hi j k u hk hu => ?_)
    · have := (hat i row hi j hj).2
      rw [Nat.zero_add, Array.getElem?_eq_getElem this]
      simp [Array.getD_eq_getD_getElem?, this]
    · have hj : j < (lay T).length := (List.getElem?_eq_some_iff.1 hk).1
      obtain ⟨a1, a2⟩ := hat i row hi j hj
      refine ((hr i row hi).dr j k u _ hk hu ?_).mono hM
      rw [List.getElem?_take_of_lt hj, List.getElem?_drop, ← q7, List.getElem?_take_of_lt a1, Array.getElem?_toList, Array.getElem?_eq_getElem a2]
      simp [Array.getD_eq_getD_getElem?, a2]
theorem FrRow.goodN {w : World} {M M' : Mem} {lo hi : Nat} {row : List Dat} {cs : List Value} (h : FrRow w M lo hi row cs) (hM : M.le M') (hg : ∀ g c, lo ≤ g → memOf w g = some c → M' g = some c) : Dd.Good lay M' (lay 43) row cs := by
  refine ⟨h.l1, h.l2, fun j k u v hk hu hv => ?_⟩
  have eu : u = row.getD j .o := by simp [List.getD_eq_getElem?_getD, hu]
  have ev : v = cs.getD j undef := by simp [List.getD_eq_getElem?_getD, hv]
  subst eu
  subst ev
  by_cases hn : j ≠ 3 ∧ j ≠ 4 ∧ j ≠ 5 ∧ j ≠ 6 ∧ j ≠ 28 ∧ j ≠ 33 ∧ j ≠ 34
  · exact (h.same j k hn hk).mono hM
  · obtain ⟨a1, a2, a3, a4, a5, a6, l1, l2, l3, l4, l5, l6, l7, h1, h2, h3, h4, h5, h6, h7⟩ := h.own
    have hc : j = 3 ∨ j = 4 ∨ j = 5 ∨ j = 6 ∨ j = 28 ∨ j = 33 ∨ j = 34 := by omega
    rcases hc with rfl | rfl | rfl | rfl | rfl | rfl | rfl <;> cases hk
    · exact h1.drN hM fun g c q => hg g c (by omega)
    · exact h2.drN hM fun g c q => hg g c (by omega)
    · exact h3.drN hM fun g c q => hg g c (by omega)
    · exact h4.drN hM fun g c q => hg g c (by omega)
    · exact h5.drN hM fun g c q => hg g c (by omega)
    · exact h6.drN hM fun g c q => hg g c (by omega)
    · exact h7.drN hM fun g c q => hg g c (by omega)
end Go.Proofs.YtgjfdbbghefdbaaGreatDoor.Lt
