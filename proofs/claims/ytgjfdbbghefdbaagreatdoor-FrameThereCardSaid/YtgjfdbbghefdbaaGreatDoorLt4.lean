/-
  frame.own over data: the answer is a row of cells that reads as the frame, its seven rows in blocks of the call's own. Conditions: as said.
-/
import Derived.Test.YtgjfdbbghefdbaaGreatDoorLt3
namespace Go.Proofs.YtgjfdbbghefdbaaGreatDoor.Lt
open Go.RowKit Sx Dd Fa Fa.C1
set_option maxRecDepth 100000
theorem spread (cs : List Value) {n : Nat} (h : cs.length = n) : cs = (List.range n).map fun j => cs.getD j undef := by
  subst h
  refine List.ext_getElem (by simp) fun i h1 h2 => ?_
  simp [List.getD_eq_getElem?_getD, List.getElem?_eq_getElem h1]
theorem dr_at {M : Mem} {ks : List Kd} {row : List Dat} {cs : List Value} (h : Dd.Good lay M ks row cs) (j : Nat) {k : Kd} (hk : ks[j]? = some k) : DR lay M k (row.getD j .o) (cs.getD j undef) := by
  have hj : j < ks.length := (List.getElem?_eq_some_iff.1 hk).1
  have h1 : j < row.length := by rw [h.l1]; exact hj
  have h2 : j < cs.length := by rw [h.l2]; exact hj
  refine h.dr j k _ _ hk ?_ ?_ <;> simp [List.getD_eq_getElem?_getD, h1, h2]
theorem dr_i {M : Mem} {k : IntKind} {d : Dat} {v : Value} (h : DR lay M (.i k) d v) : v = .int k d.int := by cases h; rfl
theorem dr_s {M : Mem} {d : Dat} {v : Value} (h : DR lay M .s d v) : v = .string (bytesOf d.str) := by cases h; rfl
theorem dr_sl {M : Mem} {T : Nat} {d : Dat} {v : Value} (h : DR lay M (.sl T) d v) : ∃ p q, v = .slice p d.rows.length q := by
  cases h with
  | nil _ _ p c h => exact ⟨p, c, by rw [h]; rfl⟩
  | sl _ _ b o c => exact ⟨_, c, rfl⟩
theorem getD_set_ne {l : List Value} {i j : Nat} (h : i ≠ j) (v : Value) : (l.set i v).getD j undef = l.getD j undef := by
  simp [List.getD_eq_getElem?_getD, List.getElem?_set_ne h]
/-- The cells of a frame that reads as data, its seven rows in blocks lo .. hi of the call's own. -/
structure FrRow (w : World) (M : Mem) (lo hi : Nat) (row : List Dat) (cs : List Value) : Prop where
  l1 : row.length = 35
  l2 : cs.length = 35
  same : ∀ (j : Nat) (k : Kd), (j ≠ 3 ∧ j ≠ 4 ∧ j ≠ 5 ∧ j ≠ 6 ∧ j ≠ 28 ∧ j ≠ 33 ∧ j ≠ 34) → (lay 43)[j]? = some k → DR lay M k (row.getD j .o) (cs.getD j undef)
  own : FrOwn w M lo hi (row.getD 3 .o) (row.getD 4 .o) (row.getD 5 .o) (row.getD 6 .o) (row.getD 28 .o) (row.getD 33 .o) (row.getD 34 .o) (cs.getD 3 undef) (cs.getD 4 undef) (cs.getD 5 undef) (cs.getD 6 undef) (cs.getD 28 undef) (cs.getD 33 undef) (cs.getD 34 undef)
theorem FrOwn.below {w w' : World} {M : Mem} {lo hi : Nat} {d3 d4 d5 d6 d28 d33 d34 : Dat} {v3 v4 v5 v6 v28 v33 v34 : Value} (h : FrOwn w M lo hi d3 d4 d5 d6 d28 d33 d34 v3 v4 v5 v6 v28 v33 v34) (hb : Below w.heap.size w w') : FrOwn w' M lo hi d3 d4 d5 d6 d28 d33 d34 v3 v4 v5 v6 v28 v33 v34 := by
  obtain ⟨a1, a2, a3, a4, a5, a6, l1, l2, l3, l4, l5, l6, l7, h1, h2, h3, h4, h5, h6, h7⟩ := h
  exact ⟨a1, a2, a3, a4, a5, a6, l1, l2, l3, l4, l5, l6, l7, h1.below hb, h2.below hb, h3.below hb, h4.below hb, h5.below hb, h6.below hb, h7.below hb⟩
theorem FrRow.below {w w' : World} {M : Mem} {lo hi : Nat} {row : List Dat} {cs : List Value} (h : FrRow w M lo hi row cs) (hb : Below w.heap.size w w') : FrRow w' M lo hi row cs := ⟨h.l1, h.l2, h.same, h.own.below hb⟩
set_option maxHeartbeats 4000000 in
theorem own_in {M : Mem} {w : World} {row : List Dat} {cs : List Value} (hM : MemOk M w) (h : Dd.Good lay M (lay 43) row cs) (b3 : (row.getD 3 .o).rows.length ≤ 1200) (b4 : (row.getD 4 .o).rows.length ≤ 1200) (b5 : (row.getD 5 .o).rows.length ≤ 1200) (b6 : (row.getD 6 .o).rows.length ≤ 1200) (b28 : (row.getD 28 .o).rows.length ≤ 1200) (b33 : (row.getD 33 .o).rows.length ≤ 1200) (b34 : (row.getD 34 .o).rows.length ≤ 1200) :
    Calls Tryz.prog 26 #[.agg cs.toArray] w fun e w' => ∃ cs' : List Value, e = .returned (.agg cs'.toArray) ∧ FrRow w' M w.heap.size w'.heap.size row cs' ∧ Below w.heap.size w w' := by
  have hs := spread cs (n := 35) h.l2
  have hs0 := hs
  rw [show (List.range 35) = [0, 1, 2, 3, 4, 5, 6, 7, 8, 9, 10, 11, 12, 13, 14, 15, 16, 17, 18, 19, 20, 21, 22, 23, 24, 25, 26, 27, 28, 29, 30, 31, 32, 33, 34] by rfl] at hs
  simp only [List.map_cons, List.map_nil] at hs
  have e0 := dr_i (dr_at h 0 (k := .i .i8) rfl)
  have e1 := dr_i (dr_at h 1 (k := .i .i64) rfl)
  have e2 := dr_i (dr_at h 2 (k := .i .i64) rfl)
  obtain ⟨p3, q3, e3⟩ := dr_sl (dr_at h 3 (k := .sl 26) rfl)
  have g3 : DR lay M (.sl 26) (row.getD 3 .o) (.slice p3 (row.getD 3 .o).rows.length q3) := e3 ▸ dr_at h 3 (k := .sl 26) rfl
  obtain ⟨p4, q4, e4⟩ := dr_sl (dr_at h 4 (k := .sl 4) rfl)
  have g4 : DR lay M (.sl 4) (row.getD 4 .o) (.slice p4 (row.getD 4 .o).rows.length q4) := e4 ▸ dr_at h 4 (k := .sl 4) rfl
  obtain ⟨p5, q5, e5⟩ := dr_sl (dr_at h 5 (k := .sl 26) rfl)
  have g5 : DR lay M (.sl 26) (row.getD 5 .o) (.slice p5 (row.getD 5 .o).rows.length q5) := e5 ▸ dr_at h 5 (k := .sl 26) rfl
  obtain ⟨p6, q6, e6⟩ := dr_sl (dr_at h 6 (k := .sl 63) rfl)
  have g6 : DR lay M (.sl 63) (row.getD 6 .o) (.slice p6 (row.getD 6 .o).rows.length q6) := e6 ▸ dr_at h 6 (k := .sl 63) rfl
  have e7 := dr_i (dr_at h 7 (k := .i .i64) rfl)
  have e8 := dr_i (dr_at h 8 (k := .i .i8) rfl)
  have e9 := dr_i (dr_at h 9 (k := .i .i64) rfl)
  have e10 := dr_i (dr_at h 10 (k := .i .i64) rfl)
  have e11 := dr_i (dr_at h 11 (k := .i .i64) rfl)
  have e12 := dr_i (dr_at h 12 (k := .i .i64) rfl)
  have e13 := dr_i (dr_at h 13 (k := .i .i8) rfl)
  have e14 := dr_i (dr_at h 14 (k := .i .i64) rfl)
  have e15 := dr_s (dr_at h 15 (k := .s) rfl)
  have e16 := dr_s (dr_at h 16 (k := .s) rfl)
  obtain ⟨p17, q17, e17⟩ := dr_sl (dr_at h 17 (k := .sl 26) rfl)
  have e18 := dr_i (dr_at h 18 (k := .i .i8) rfl)
  have e19 := dr_i (dr_at h 19 (k := .i .i64) rfl)
  have e20 := dr_s (dr_at h 20 (k := .s) rfl)
  have e21 := dr_s (dr_at h 21 (k := .s) rfl)
  obtain ⟨p22, q22, e22⟩ := dr_sl (dr_at h 22 (k := .sl 26) rfl)
  have e23 := dr_i (dr_at h 23 (k := .i .i8) rfl)
  have e24 := dr_i (dr_at h 24 (k := .i .i64) rfl)
  have e25 := dr_s (dr_at h 25 (k := .s) rfl)
  have e26 := dr_s (dr_at h 26 (k := .s) rfl)
  obtain ⟨p27, q27, e27⟩ := dr_sl (dr_at h 27 (k := .sl 26) rfl)
  obtain ⟨p28, q28, e28⟩ := dr_sl (dr_at h 28 (k := .sl 89) rfl)
  have g28 : DR lay M (.sl 89) (row.getD 28 .o) (.slice p28 (row.getD 28 .o).rows.length q28) := e28 ▸ dr_at h 28 (k := .sl 89) rfl
  have e29 := dr_i (dr_at h 29 (k := .i .i8) rfl)
  have e30 := dr_i (dr_at h 30 (k := .i .i64) rfl)
  have e31 := dr_i (dr_at h 31 (k := .i .i64) rfl)
  obtain ⟨p32, q32, e32⟩ := dr_sl (dr_at h 32 (k := .sl 87) rfl)
  obtain ⟨p33, q33, e33⟩ := dr_sl (dr_at h 33 (k := .sl 3) rfl)
  have g33 : DR lay M (.sl 3) (row.getD 33 .o) (.slice p33 (row.getD 33 .o).rows.length q33) := e33 ▸ dr_at h 33 (k := .sl 3) rfl
  obtain ⟨p34, q34, e34⟩ := dr_sl (dr_at h 34 (k := .sl 3) rfl)
  have g34 : DR lay M (.sl 3) (row.getD 34 .o) (.slice p34 (row.getD 34 .o).rows.length q34) := e34 ▸ dr_at h 34 (k := .sl 3) rfl
  rw [e0, e1, e2, e3, e4, e5, e6, e7, e8, e9, e10, e11, e12, e13, e14, e15, e16, e17, e18, e19, e20, e21, e22, e23, e24, e25, e26, e27, e28, e29, e30, e31, e32, e33, e34] at hs
  have hw := own_walk (row.getD 3 .o) (row.getD 4 .o) (row.getD 5 .o) (row.getD 6 .o) (row.getD 28 .o) (row.getD 33 .o) (row.getD 34 .o) (row.getD 0 .o).int (row.getD 1 .o).int (row.getD 2 .o).int (row.getD 7 .o).int (row.getD 8 .o).int (row.getD 9 .o).int (row.getD 10 .o).int (row.getD 11 .o).int (row.getD 12 .o).int (row.getD 13 .o).int (row.getD 14 .o).int (row.getD 18 .o).int (row.getD 19 .o).int (row.getD 23 .o).int (row.getD 24 .o).int (row.getD 29 .o).int (row.getD 30 .o).int (row.getD 31 .o).int (bytesOf (row.getD 15 .o).str) (bytesOf (row.getD 16 .o).str) (bytesOf (row.getD 20 .o).str) (bytesOf (row.getD 21 .o).str) (bytesOf (row.getD 25 .o).str) (bytesOf (row.getD 26 .o).str) p3 p4 p5 p6 p28 p33 p34 p17 p22 p27 p32 (row.getD 3 .o).rows.length q3 (row.getD 4 .o).rows.length q4 (row.getD 5 .o).rows.length q5 (row.getD 6 .o).rows.length q6 (row.getD 28 .o).rows.length q28 (row.getD 33 .o).rows.length q33 (row.getD 34 .o).rows.length q34 (row.getD 17 .o).rows.length q17 (row.getD 22 .o).rows.length q22 (row.getD 27 .o).rows.length q27 (row.getD 32 .o).rows.length q32 hM g3 g4 g5 g6 g28 g33 g34 b3 b4 b5 b6 b28 b33 b34
  have hst : ∀ v3 v4 v5 v6 v28 v33 v34 : Value, (((((((cs.set 3 v3).set 4 v4).set 5 v5).set 6 v6).set 28 v28).set 33 v33).set 34 v34) = [.int .i8 (row.getD 0 .o).int, .int .i64 (row.getD 1 .o).int, .int .i64 (row.getD 2 .o).int, v3, v4, v5, v6, .int .i64 (row.getD 7 .o).int, .int .i8 (row.getD 8 .o).int, .int .i64 (row.getD 9 .o).int, .int .i64 (row.getD 10 .o).int, .int .i64 (row.getD 11 .o).int, .int .i64 (row.getD 12 .o).int, .int .i8 (row.getD 13 .o).int, .int .i64 (row.getD 14 .o).int, .string (bytesOf (row.getD 15 .o).str), .string (bytesOf (row.getD 16 .o).str), .slice p17 (row.getD 17 .o).rows.length q17, .int .i8 (row.getD 18 .o).int, .int .i64 (row.getD 19 .o).int, .string (bytesOf (row.getD 20 .o).str), .string (bytesOf (row.getD 21 .o).str), .slice p22 (row.getD 22 .o).rows.length q22, .int .i8 (row.getD 23 .o).int, .int .i64 (row.getD 24 .o).int, .string (bytesOf (row.getD 25 .o).str), .string (bytesOf (row.getD 26 .o).str), .slice p27 (row.getD 27 .o).rows.length q27, v28, .int .i8 (row.getD 29 .o).int, .int .i64 (row.getD 30 .o).int, .int .i64 (row.getD 31 .o).int, .slice p32 (row.getD 32 .o).rows.length q32, v33, v34] := fun v3 v4 v5 v6 v28 v33 v34 => by rw [hs]; rfl
  rw [show cs.toArray = _ from congrArg List.toArray hs]
  refine hw.mono ?_
  rintro e w' ⟨v3, v4, v5, v6, v28, v33, v34, rfl, hO, hB⟩
  refine ⟨((((((cs.set 3 v3).set 4 v4).set 5 v5).set 6 v6).set 28 v28).set 33 v33).set 34 v34, by rw [hst], ⟨h.l1, (by simp only [List.length_set]; exact h.l2), fun j k hj hk => ?_, ?_⟩, hB⟩
  · rw [getD_set_ne (by omega), getD_set_ne (by omega), getD_set_ne (by omega), getD_set_ne (by omega), getD_set_ne (by omega), getD_set_ne (by omega), getD_set_ne (by omega)]
    exact dr_at h j hk
  · rw [hst]
    exact hO
end Go.Proofs.YtgjfdbbghefdbaaGreatDoor.Lt
