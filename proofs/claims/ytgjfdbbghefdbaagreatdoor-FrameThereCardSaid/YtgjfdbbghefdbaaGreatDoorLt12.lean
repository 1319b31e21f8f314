/-
  Stacks of frames in a block of the call's own, as data: what holds behind a write. Conditions: as said.
-/
import Derived.Test.YtgjfdbbghefdbaaGreatDoorLt11
import Derived.Deep.AppendLies
namespace Go.Proofs.YtgjfdbbghefdbaaGreatDoor.Lt
open Go.RowKit Sx Dd Fa Fa.C1
set_option maxRecDepth 100000
/-- Memory that stays, and what a call that began at size s has made, but for a block. -/
def memNot (M : Mem) (s B : Nat) (w : World) : Mem := fun b => if b = B then none else if b < s then M b else memOf w b
theorem memNot_le (M : Mem) (s B : Nat) (w : World) : (memNot M s B w).le (memAll M s w) := fun b c h => by
  unfold memNot at h
  unfold memAll
  by_cases e : b = B
  · rw [if_pos e] at h; cases h
  · rwa [if_neg e] at h
theorem memNot_of {M : Mem} {s B b : Nat} {w : World} (h : b ≠ B) (hs : s ≤ b) : memNot M s B w b = memOf w b := by unfold memNot; rw [if_neg h, if_neg (by omega)]
theorem memNot_congr {M : Mem} {s B : Nat} {w w' : World} (h : ∀ b, b ≠ B → w'.heap[b]? = w.heap[b]?) : memNot M s B w' = memNot M s B w := by
  funext b
  unfold memNot
  by_cases e : b = B
  · rw [if_pos e, if_pos e]
  · rw [if_neg e, if_neg e]
    unfold memOf
    rw [h b e]
theorem le_memNot {M : Mem} {w w' : World} {B : Nat} (hM : MemOk M w) (hB : w.heap.size ≤ B) : M.le (memNot M w.heap.size B w') := fun b c e => by
  obtain ⟨ty, fz, e1⟩ := hM b c e
  have hlt := (Array.getElem?_eq_some_iff.1 e1).1
  unfold memNot
  rw [if_neg (by omega), if_pos hlt]
  exact e
/-- The blocks that a write leaves: all but B and that of v5. -/
def Keeps (w w' : World) (B : Nat) (v5 : Value) : Prop := ∀ b, b < w.heap.size → b ≠ B → (∀ x, v5.ownBlock = some x → b ≠ x) → w'.heap[b]? = w.heap[b]?
theorem OwnSl.keeps {w w' : World} {M : Mem} {lo hi T B : Nat} {d : Dat} {v v5 : Value} (h : OwnSl w M lo hi T d v) (hk : Keeps w w' B v5) (hB : B < lo) (hne : ∀ x, v5.ownBlock = some x → x < lo ∨ hi ≤ x) : OwnSl w' M lo hi T d v := by
  obtain ⟨xs, h1, h2, h3⟩ := h
  refine ⟨xs, ⟨h1.1, ?_⟩, h2, h3⟩
  rcases h1.2 with q | ⟨g, cap, cur, q1, q2, q3, q4⟩
  · exact .inl q
  · refine .inr ⟨g, cap, cur, q1, q2, (hk g (Array.getElem?_eq_some_iff.1 q3).1 (by omega) fun x hx => ?_).trans q3, q4⟩
    have := hne x hx
    have := h2 g (by rw [q1]; rfl)
    omega
/-- Where the block of a row of one's own lies. -/
theorem OwnSl.at {w : World} {M : Mem} {lo hi T : Nat} {d : Dat} {v : Value} (h : OwnSl w M lo hi T d v) {x : Nat} (hx : v.ownBlock = some x) : lo ≤ x ∧ x < hi := by
  obtain ⟨xs, h1, h2, h3⟩ := h
  refine ⟨?_, h2 x hx⟩
  rcases h1.2 with ⟨rfl, _⟩ | ⟨g, cap, cur, rfl, q2, _⟩
  · cases hx
  · cases hx
    exact q2
/-- The first k frames of a block read as data in the memory beside that block. -/
structure StIn (M : Mem) (s : Nat) (w : World) (B n k : Nat) (rows : List (List Dat)) (f : Nat → Value) : Prop where
  row : w.rowIs B 43 (n * 35) f
  kn : k ≤ n
  good : ∀ i, i < k → ∃ row, rows[i]? = some row ∧ Dd.Good lay (memNot M s B w) (lay 43) row (cut f i)
theorem StRow.sin {w : World} {M : Mem} {s B n k k' : Nat} (hsB : s ≤ B) {rows : List (List Dat)} {f : Nat → Value} {g : Nat → Nat} (h : StRow w M B n k rows f g) (hM : M.le (memNot M s B w)) (hk : k' ≤ k) (hn : k ≤ n) : StIn M s w B n k' rows f := by
  refine ⟨h.1, by omega, fun i hi => ?_⟩
  obtain ⟨_, a2, r, a3, a4⟩ := h.2.2.2 i (by omega)
  exact ⟨r, a3, a4.goodN hM fun g c q e => by rw [memNot_of (by omega) (by omega)]; exact e⟩
/-- The last frame is written, and what it alone holds: the others are as they were. -/
theorem StRow.rest {w w' : World} {M : Mem} {s B n k : Nat} (hsB : s ≤ B) {rows : List (List Dat)} {f : Nat → Value} {g : Nat → Nat} (h : StRow w M B n (k + 1) rows f g) (hn : k + 1 ≤ n) (hM : M.le (memNot M s B w')) (hk : Keeps w w' B (f (k * 35 + 5)))
    (hv5 : ∀ x, (f (k * 35 + 5)).ownBlock = some x → g k ≤ x) {f' : Nat → Value} (hrow : w'.rowIs B 43 (n * 35) f') (hf : ∀ q, q < k * 35 → f' q = f q) {rows' : List (List Dat)} (hrs : ∀ i, i < k → rows'[i]? = rows[i]?) {row' : List Dat} (hr' : rows'[k]? = some row')
    (hg : Dd.Good lay (memNot M s B w') (lay 43) row' (cut f' k)) : StIn M s w' B n (k + 1) rows' f' := by
  have gm : ∀ i, i ≤ k → g i ≤ g k := fun i hi => by
    have key : ∀ m, i + m ≤ k → g i ≤ g (i + m) := by
      intro m
      induction m with
      | zero => intro _; exact Nat.le_refl _
      | succ m ih => intro hm; exact Nat.le_trans (ih (by omega)) (h.2.2.2 (i + m) (by omega)).1
    have := key (k - i) (by omega)
    rwa [show i + (k - i) = k by omega] at this
  refine ⟨hrow, hn, fun i hi => ?_⟩
  by_cases he : i = k
  · subst he
    exact ⟨row', hr', hg⟩
  · have hik : i < k := by omega
    obtain ⟨_, a2, r, a3, a4⟩ := h.2.2.2 i (by omega)
    refine ⟨r, (hrs i hik).trans a3, ?_⟩
    have hc : cut f' i = cut f i := List.map_congr_left fun j hj => hf _ (by have := List.mem_range.1 hj; omega)
    rw [hc]
    have hlt := gm (i + 1) hik
    obtain ⟨a1, b2, b3, b4, b5, b6, l1, l2, l3, l4, l5, l6, l7, h1, h2, h3, h4, h5, h6, h7⟩ := a4.own
    have hne : ∀ x, (f (k * 35 + 5)).ownBlock = some x → ∀ lo hi, hi ≤ g (i + 1) → x < lo ∨ hi ≤ x := fun x hx lo hi q => by have := hv5 x hx; omega
    have a4' : FrRow w' M (g i) (g (i + 1)) r (cut f i) := ⟨a4.l1, a4.l2, a4.same, a1, b2, b3, b4, b5, b6, l1, l2, l3, l4, l5, l6, l7,
      h1.keeps hk (by omega) fun x hx => hne x hx _ _ (by omega), h2.keeps hk (by omega) fun x hx => hne x hx _ _ (by omega), h3.keeps hk (by omega) fun x hx => hne x hx _ _ (by omega), h4.keeps hk (by omega) fun x hx => hne x hx _ _ (by omega), h5.keeps hk (by omega) fun x hx => hne x hx _ _ (by omega), h6.keeps hk (by omega) fun x hx => hne x hx _ _ (by omega), h7.keeps hk (by omega) fun x hx => hne x hx _ _ (by omega)⟩
    exact a4'.goodN hM fun g' c q e => by rw [memNot_of (by omega) (by omega)]; exact e
/-- The last frame's other parts. -/
theorem StRow.part {w w' : World} {M : Mem} {s B n k : Nat} (hsB : s ≤ B) {rows : List (List Dat)} {f : Nat → Value} {g : Nat → Nat} (h : StRow w M B n (k + 1) rows f g) (hM : M.le (memNot M s B w')) (hk : Keeps w w' B (f (k * 35 + 5))) {row : List Dat} (hr : rows[k]? = some row) :
    row.length = 35 ∧ (∀ x, (f (k * 35 + 5)).ownBlock = some x → g k ≤ x) ∧ ∀ (j : Nat) (kd : Kd), j ≠ 5 → (lay 43)[j]? = some kd → DR lay (memNot M s B w') kd (row.getD j .o) (f (k * 35 + j)) := by
  obtain ⟨_, a2, r, a3, a4⟩ := h.2.2.2 k (by omega)
  rw [hr] at a3
  cases a3
  obtain ⟨a1, b2, b3, b4, b5, b6, l1, l2, l3, l4, l5, l6, l7, h1, h2, h3, h4, h5, h6, h7⟩ := a4.own
  have hcd : ∀ j, j < 35 → (cut f k).getD j undef = f (k * 35 + j) := fun j hj => by
    rw [cut, List.getD_eq_getElem?_getD, List.getElem?_map, List.getElem?_range hj]
    rfl
  have e5 := hcd 5 (by omega)
  rw [e5] at h3
  have at5 := fun x hx => h3.at (x := x) hx
  refine ⟨a4.l1, fun x hx => Nat.le_trans (Nat.le_trans l1 l2) (at5 x hx).1, fun j kd hj hkd => ?_⟩
  have hjl : j < 35 := (List.getElem?_eq_some_iff.1 hkd).1
  rw [← hcd j hjl]
  have hg : ∀ g' c, B < g' → memOf w' g' = some c → memNot M s B w' g' = some c := fun g' c q e => by rw [memNot_of (by omega) (by omega)]; exact e
  by_cases hn : j ≠ 3 ∧ j ≠ 4 ∧ j ≠ 5 ∧ j ≠ 6 ∧ j ≠ 28 ∧ j ≠ 33 ∧ j ≠ 34
  · exact (a4.same j kd hn hkd).mono hM
  · have hc : j = 3 ∨ j = 4 ∨ j = 6 ∨ j = 28 ∨ j = 33 ∨ j = 34 := by omega
    rcases hc with rfl | rfl | rfl | rfl | rfl | rfl <;> cases hkd
    · exact (h1.keeps hk (by omega) fun x hx => .inr (by have := (at5 x hx).1; omega)).drN hM fun g c q => hg g c (by omega)
    · exact (h2.keeps hk (by omega) fun x hx => .inr (by have := (at5 x hx).1; omega)).drN hM fun g c q => hg g c (by omega)
    · exact (h4.keeps hk (by omega) fun x hx => .inl (by have := (at5 x hx).2; omega)).drN hM fun g c q => hg g c (by omega)
    · exact (h5.keeps hk (by omega) fun x hx => .inl (by have := (at5 x hx).2; omega)).drN hM fun g c q => hg g c (by omega)
    · exact (h6.keeps hk (by omega) fun x hx => .inl (by have := (at5 x hx).2; omega)).drN hM fun g c q => hg g c (by omega)
    · exact (h7.keeps hk (by omega) fun x hx => .inl (by have := (at5 x hx).2; omega)).drN hM fun g c q => hg g c (by omega)
theorem StIn.dr {M : Mem} {s : Nat} {w : World} {B n k c : Nat} (hsB : s ≤ B) {d : Dat} {f : Nat → Value} (h : StIn M s w B n k d.rows f) (hk : d.rows.length ≤ k) (hc : d.rows.length ≤ c) : DR lay (memAll M s w) (.sl 43) d (.slice (some ⟨B, 0, none⟩) d.rows.length c) := by
  obtain ⟨⟨C, e1, e2, e3⟩, hn, h4⟩ := h
  have hrow : ∀ (i : Nat) (row : List Dat), d.rows[i]? = some row → i < k ∧ Dd.Good lay (memAll M s w) (lay 43) row (cut f i) := fun i row hi => by
    have hin : i < d.rows.length := (List.getElem?_eq_some_iff.1 hi).1
    have hik : i < k := by omega
    obtain ⟨r, a3, a4⟩ := h4 i hik
    rw [hi] at a3
    cases a3
    exact ⟨hik, good_mono (memNot_le M s B w) a4⟩
  refine .sl _ d B 0 c (fun i j => f (i * 35 + j)) hc (fun i row hi => (hrow i row hi).2.l1) (fun i row hi j hj => ⟨C, by unfold memAll; rw [if_neg (by omega)]; exact memOf_at e1, ?_⟩) (fun i row hi j k' u hk' hu => ?_)
  · have hj : j < 35 := hj
    have hik := (hrow i row hi).1
    rw [Nat.zero_add]
    exact e3 _ (by show i * 35 + j < n * 35; omega)
  · have hj : j < 35 := (List.getElem?_eq_some_iff.1 hk').1
    refine (hrow i row hi).2.dr j k' u _ hk' hu ?_
    rw [cut, List.getElem?_map, List.getElem?_range hj]
    rfl
/-- A cell of a frame is written. -/
theorem StIn.set {M : Mem} {s : Nat} {w : World} {B n k : Nat} {rows : List (List Dat)} {f : Nat → Value} (h : StIn M s w B n k rows f) {i j : Nat} (hi : i < k) {row : List Dat} (hr : rows[i]? = some row) {kd : Kd} (hj : (lay 43)[j]? = some kd) {d : Dat} {v : Value} (hv : DR lay (memNot M s B w) kd d v) :
    StIn M s (w.setCell ⟨B, i * 35 + j, none⟩ v) B n k (rows.set i (row.set j d)) (fun q => if q = i * 35 + j then v else f q) := by
  have hj35 : j < 35 := (List.getElem?_eq_some_iff.1 hj).1
  have hm : memNot M s B (w.setCell ⟨B, i * 35 + j, none⟩ v) = memNot M s B w := memNot_congr fun b hb => by
    obtain ⟨C, e1, _⟩ := h.row
    obtain ⟨_, _, h2, _⟩ := Sx.setCell_at (o := i * 35 + j) e1 v
    exact h2 b hb
  refine ⟨h.row.set _ v, h.kn, fun i' hi' => ?_⟩
  rw [hm]
  obtain ⟨r, r1, r2⟩ := h.good i' hi'
  have hlen : i < rows.length := (List.getElem?_eq_some_iff.1 hr).1
  by_cases he : i' = i
  · subst he
    rw [hr] at r1
    cases r1
    refine ⟨row.set j d, by simp [hlen], ⟨by simp [r2.l1], by rw [cut_length]; rfl, fun j' k' u x h1 h2 h3 => ?_⟩⟩
    have hj' : j' < 35 := (List.getElem?_eq_some_iff.1 h1).1
    rw [cut, List.getElem?_map, List.getElem?_range hj'] at h3
    cases h3
    by_cases ej : j' = j
    · subst ej
      rw [hj] at h1
      cases h1
      rw [List.getElem?_set_self (by rw [r2.l1]; exact hj35)] at h2
      cases h2
      simpa using hv
    · rw [List.getElem?_set_ne (Ne.symm ej)] at h2
      have : (if i' * 35 + j' = i' * 35 + j then v else f (i' * 35 + j')) = f (i' * 35 + j') := by rw [if_neg (by omega)]
      show DR lay (memNot M s B w) k' u (if i' * 35 + j' = i' * 35 + j then v else f (i' * 35 + j'))
      rw [this]
      exact r2.dr j' k' u _ h1 h2 (by rw [cut, List.getElem?_map, List.getElem?_range hj']; rfl)
  · refine ⟨r, by rw [List.getElem?_set_ne (Ne.symm he)]; exact r1, ?_⟩
    have hc : cut (fun q => if q = i * 35 + j then v else f q) i' = cut f i' := List.map_congr_left fun q hq => by
      have hq := List.mem_range.1 hq
      show (if i' * 35 + q = i * 35 + j then v else f (i' * 35 + q)) = _
      rw [if_neg (by omega)]
    rw [hc]
    exact r2
theorem cut_at (f : Nat → Value) (k : Nat) {j : Nat} (hj : j < 35) : (cut f k).getD j undef = f (k * 35 + j) := by
  rw [cut, List.getD_eq_getElem?_getD, List.getElem?_map, List.getElem?_range hj]
  rfl
end Go.Proofs.YtgjfdbbghefdbaaGreatDoor.Lt
