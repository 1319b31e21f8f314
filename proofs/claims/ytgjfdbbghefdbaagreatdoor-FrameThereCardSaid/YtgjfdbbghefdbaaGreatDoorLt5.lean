/-
  Rows of frames in memory of the call's own: what stack's loop keeps. Conditions: as said.
-/
import Derived.Test.YtgjfdbbghefdbaaGreatDoorLt4
import Derived.Lib.LazyBuf
import Derived.Deep.OwnRows
import Derived.Deep.MidRow
import Derived.Deep.Upon
namespace Go.Proofs.YtgjfdbbghefdbaaGreatDoor.Lt
open Go.RowKit Sx Dd Fa Fa.C1
set_option maxRecDepth 100000
/-- A row of a slice over data: its cells, where they lie. -/
theorem row_range {M : Mem} {w : World} (hM : MemOk M w) {T : Nat} {d : Dat} {p : Option Addr} {n c : Nat} (h : DR lay M (.sl T) d (.slice p n c)) {i : Nat} {row : List Dat} (hi : d.rows[i]? = some row) :
    ∃ b o cs, p = some ⟨b, o, none⟩ ∧ w.rangeAt b (o + i * (lay T).length) cs ∧ Dd.Good lay M (lay T) row cs := by
  cases h with
  | nil _ _ _ _ h0 => rw [h0] at hi; simp at hi
  | sl _ _ b o _ val h1 h2 h3 h4 =>
    refine ⟨b, o, (List.range (lay T).length).map (val i), rfl, fun j v hv => ?_, ⟨h2 i row hi, by simp, fun j k u v hk hu hv => ?_⟩⟩
    · rw [List.getElem?_map, Option.map_eq_some_iff] at hv
      obtain ⟨q, hq, rfl⟩ := hv
      obtain ⟨hq1, rfl⟩ : q < (lay T).length ∧ q = j := by
        have := List.getElem?_eq_some_iff.1 hq
        obtain ⟨e1, e2⟩ := this
        simp at e1 e2
        subst e2
        exact ⟨e1, rfl⟩
      obtain ⟨C, e1, e2⟩ := h3 i row hi q hq1
      obtain ⟨ty, fz, e3⟩ := hM b C e1
      rw [Sx.cell_at e3, e2]
    · have hj : j < (lay T).length := (List.getElem?_eq_some_iff.1 hk).1
      rw [List.getElem?_map, List.getElem?_range hj] at hv
      cases hv
      exact h4 i row hi j k u hk hu
theorem OwnSl.set {w : World} {M : Mem} {lo hi T b : Nat} {d : Dat} {v : Value} (h : OwnSl w M lo hi T d v) (hb : b < lo) (o : Nat) (vs : List Value) : OwnSl (w.setCells b o vs) M lo hi T d v := by
  obtain ⟨xs, h1, h2, h3⟩ := h
  refine ⟨xs, ⟨h1.1, ?_⟩, h2, h3⟩
  rcases h1.2 with q | ⟨g, cap, cur, q1, q2, q3, q4⟩
  · exact .inl q
  · exact .inr ⟨g, cap, cur, q1, q2, (World.heap_setCells_other w b o vs (Array.getElem?_eq_some_iff.1 q3).1 (by omega)).trans q3, q4⟩
theorem FrOwn.set {w : World} {M : Mem} {lo hi b : Nat} {d3 d4 d5 d6 d28 d33 d34 : Dat} {v3 v4 v5 v6 v28 v33 v34 : Value} (h : FrOwn w M lo hi d3 d4 d5 d6 d28 d33 d34 v3 v4 v5 v6 v28 v33 v34) (hb : b < lo) (o : Nat) (vs : List Value) : FrOwn (w.setCells b o vs) M lo hi d3 d4 d5 d6 d28 d33 d34 v3 v4 v5 v6 v28 v33 v34 := by
  obtain ⟨a1, a2, a3, a4, a5, a6, l1, l2, l3, l4, l5, l6, l7, h1, h2, h3, h4, h5, h6, h7⟩ := h
  exact ⟨a1, a2, a3, a4, a5, a6, l1, l2, l3, l4, l5, l6, l7, h1.set (by omega) o vs, h2.set (by omega) o vs, h3.set (by omega) o vs, h4.set (by omega) o vs, h5.set (by omega) o vs, h6.set (by omega) o vs, h7.set (by omega) o vs⟩
theorem FrOwn.lower {w : World} {M : Mem} {lo lo' hi : Nat} {d3 d4 d5 d6 d28 d33 d34 : Dat} {v3 v4 v5 v6 v28 v33 v34 : Value} (h : FrOwn w M lo hi d3 d4 d5 d6 d28 d33 d34 v3 v4 v5 v6 v28 v33 v34) (hl : lo' ≤ lo) : FrOwn w M lo' hi d3 d4 d5 d6 d28 d33 d34 v3 v4 v5 v6 v28 v33 v34 := by
  obtain ⟨a1, a2, a3, a4, a5, a6, l1, l2, l3, l4, l5, l6, l7, h1, h2, h3, h4, h5, h6, h7⟩ := h
  exact ⟨a1, a2, a3, a4, a5, a6, Nat.le_trans hl l1, l2, l3, l4, l5, l6, l7, h1.mono hl (Nat.le_refl _), h2, h3, h4, h5, h6, h7⟩
theorem FrRow.set {w : World} {M : Mem} {lo hi b : Nat} {row : List Dat} {cs : List Value} (h : FrRow w M lo hi row cs) (hb : b < lo) (o : Nat) (vs : List Value) : FrRow (w.setCells b o vs) M lo hi row cs := ⟨h.l1, h.l2, h.same, h.own.set hb o vs⟩
theorem FrRow.lower {w : World} {M : Mem} {lo lo' hi : Nat} {row : List Dat} {cs : List Value} (h : FrRow w M lo hi row cs) (hl : lo' ≤ lo) : FrRow w M lo' hi row cs := ⟨h.l1, h.l2, h.same, h.own.lower hl⟩
/-- Frame i's cells among a row's. -/
def cut (f : Nat → Value) (i : Nat) : List Value := (List.range 35).map fun j => f (i * 35 + j)
theorem cut_length (f : Nat → Value) (i : Nat) : (cut f i).length = 35 := by simp [cut]
theorem cut_put (f : Nat → Value) (k : Nat) {cs : List Value} (hc : cs.length = 35) : cut (fun j => if k * 35 ≤ j ∧ j < k * 35 + cs.length then cs[j - k * 35]?.getD default else f j) k = cs := by
  refine List.ext_getElem? fun j => ?_
  by_cases hj : j < 35
  · have h1 : j < cs.length := by omega
    rw [cut, List.getElem?_map, List.getElem?_range hj, Option.map_some, if_pos (by omega), show k * 35 + j - k * 35 = j by omega, List.getElem?_eq_getElem h1]
    rfl
  · rw [List.getElem?_eq_none (by rw [cut_length]; omega), List.getElem?_eq_none (by omega)]
theorem cut_keep (f : Nat → Value) {i k : Nat} (h : i ≠ k) {cs : List Value} (hc : cs.length = 35) : cut (fun j => if k * 35 ≤ j ∧ j < k * 35 + cs.length then cs[j - k * 35]?.getD default else f j) i = cut f i := by
  refine List.map_congr_left fun j hj => ?_
  have hj := List.mem_range.1 hj
  show (if k * 35 ≤ i * 35 + j ∧ i * 35 + j < k * 35 + cs.length then cs[i * 35 + j - k * 35]?.getD default else f (i * 35 + j)) = _
  rw [if_neg (by omega)]
/-- The first k rows of a block of frames are the data's, in memory of the call's own behind that block. -/
def StRow (w : World) (M : Mem) (B n k : Nat) (rows : List (List Dat)) (f : Nat → Value) (g : Nat → Nat) : Prop :=
  w.rowIs B 43 (n * 35) f ∧ B < g 0 ∧ g k ≤ w.heap.size ∧ ∀ i, i < k → g i ≤ g (i + 1) ∧ B < g i ∧ ∃ row, rows[i]? = some row ∧ FrRow w M (g i) (g (i + 1)) row (cut f i)
/-- One more. -/
theorem StRow.more {w w' : World} {M : Mem} {B n k : Nat} {rows : List (List Dat)} {f : Nat → Value} {g : Nat → Nat} (h : StRow w M B n k rows f g) (hB : B < g k) (hb : Below w.heap.size w w') {row : List Dat} (hr : rows[k]? = some row) {cs : List Value} (hc : FrRow w' M w.heap.size w'.heap.size row cs) :
    StRow (w'.setCells B (k * 35) cs) M B n (k + 1) rows (fun j => if k * 35 ≤ j ∧ j < k * 35 + cs.length then cs[j - k * 35]?.getD default else f j) (fun i => if i ≤ k then g i else w'.heap.size) := by
  obtain ⟨h1, h2, h3, h4⟩ := h
  have hlt : B < w.heap.size := by
    obtain ⟨C, e, _⟩ := h1
    exact (Array.getElem?_eq_some_iff.1 e).1
  have h1' : w'.rowIs B 43 (n * 35) f := by
    obtain ⟨C, e1, e2, e3⟩ := h1
    exact ⟨C, (hb.block B hlt).trans e1, e2, e3⟩
  refine ⟨rowIs_setCells cs _ w' f h1', by show B < (if 0 ≤ k then g 0 else _); rw [if_pos (Nat.zero_le _)]; exact h2, ?_, fun i hi => ?_⟩
  · show (if k + 1 ≤ k then g (k + 1) else w'.heap.size) ≤ _
    rw [if_neg (by omega)]
    exact (below_setCells (Nat.le_refl B) cs (k * 35) w' (Below.refl B w')).size
  · dsimp only
    by_cases he : i = k
    · subst he
      rw [if_pos (Nat.le_refl _), if_neg (by omega)]
      refine ⟨Nat.le_trans h3 hb.size, hB, row, hr, ?_⟩
      rw [cut_put f i hc.l2]
      exact (hc.lower h3).set hB _ _
    · have hk : i < k := by omega
      obtain ⟨a1, a2, r, a3, a4⟩ := h4 i hk
      rw [if_pos (by omega), if_pos (by omega)]
      refine ⟨a1, a2, r, a3, ?_⟩
      rw [cut_keep f he hc.l2]
      exact (a4.below hb).set a2 _ _
end Go.Proofs.YtgjfdbbghefdbaaGreatDoor.Lt
