/-
  FrameBelow is true, over data. Conditions: data in range.
-/
import Derived.Test.YtgjfdbbghefdbaaGreatDoorLt17
namespace Go.Proofs.YtgjfdbbghefdbaaGreatDoor.Lt
open Go.RowKit Sx Dd Fa Fa.B1 Fa.C1 L1
set_option maxRecDepth 100000
set_option linter.unusedSimpArgs false
theorem short_of {r : List Dat} (h : Small r) : Short r := ⟨h 3 (by simp), h 4 (by simp), h 5 (by simp), h 6 (by simp), h 28 (by simp), h 33 (by simp), h 34 (by simp)⟩
theorem getD_of {rows : List (List Dat)} {i : Nat} {row : List Dat} (h : rows[i]? = some row) : rows.getD i [] = row := by rw [List.getD_eq_getElem?_getD, h]; rfl
theorem getD_take {rows : List (List Dat)} {i k : Nat} (h : i < k) : (rows.take k).getD i [] = rows.getD i [] := by
  rw [List.getD_eq_getElem?_getD, List.getElem?_take_of_lt h, ← List.getD_eq_getElem?_getD]
theorem getD_set {rows : List (List Dat)} {i k : Nat} {x : List Dat} (h : i ≠ k) : (rows.set k x).getD i [] = rows.getD i [] := by
  rw [List.getD_eq_getElem?_getD, List.getElem?_set_ne (Ne.symm h), ← List.getD_eq_getElem?_getD]
theorem getD_self {rows : List (List Dat)} {k : Nat} {x : List Dat} (h : k < rows.length) : (rows.set k x).getD k [] = x := by
  rw [List.getD_eq_getElem?_getD, List.getElem?_set_self h]
  rfl
theorem unRow_tries (row : List Dat) (cl : Int) (tr : List Dat) (h : row.length = 35) : ((unRow row cl tr).getD 6 .o).rows.length = (row.getD 6 .o).rows.length - 1 := by
  unfold unRow
  rw [List.getD_eq_getElem?_getD, List.getElem?_set_ne (by omega), List.getElem?_set_ne (by omega), List.getElem?_set_ne (by omega), List.getElem?_set_self (by omega)]
  show ((row.getD 6 .o).rows.take _).length = _
  rw [List.length_take]
  omega
theorem backRow_stack (row : List Dat) (tr : List Dat) (h : row.length = 35) : ((row.set 5 (.r ((row.getD 5 .o).rows ++ [tr]))).getD 5 .o).rows.length = (row.getD 5 .o).rows.length + 1 := by
  rw [List.getD_eq_getElem?_getD, List.getElem?_set_self (by omega)]
  show ((row.getD 5 .o).rows ++ [tr]).length = _
  rw [List.length_append]
  rfl
set_option maxHeartbeats 4000000 in
theorem below_pu {d : Dat} (hd : Dok d) (hw : ∀ row, row ∈ d.rows → row.length = 35) {cl k n : Int} {s t : List Nat} {a : Dat} (ha : Dok a) (h1 : -9223372036854775808 ≤ cl) (h2 : cl ≤ 9223372036854775807) :
    Pu 3 [.es 43 d, .i .i8 cl, tmV k n s t a] (.b true) := by
  obtain ⟨g, g0, g1⟩ := lgreat_in hd
  cases g with
  | true => exact fb_p0 d cl k n s t a (vwakes1 := true) g0 wakes_pu
  | false =>
  obtain ⟨hb, hs'⟩ := g1 rfl
  have hs : ∀ row, row ∈ d.rows → Short row := fun row hr => short_of (hs' row hr)
  obtain ⟨b, t0⟩ := great_in ha k n s t
  cases b with
  | true => exact fb_p1 d cl k n s t a (vwakes1 := true) g0 t0 wakes_pu
  | false =>
  clear hs' g1
  have hdl := down_le d.rows d.rows.length
  have hda := down_above d.rows d.rows.length
  have l5 : ∀ i, i < d.rows.length → ((d.rows.getD i []).getD 5 .o).rows.length ≤ 1200 := fun i hi => (hs _ (row_at hi)).2.2.1
  have l6 : ∀ i, i < d.rows.length → ((d.rows.getD i []).getD 6 .o).rows.length ≤ 1200 := fun i hi => (hs _ (row_at hi)).2.2.2.1
  rcases Nat.lt_or_ge d.rows.length 2 with hlt | hge
  all_goals rcases Nat.eq_zero_or_pos (down d.rows d.rows.length) with e0 | e0
  · have hU := unwind_over (k := k) (n := n) (s := s) (t := t) (a := a) hb hs h1 h2 e0
    obtain ⟨U, hUe⟩ : ∃ U : List (List Dat), U = [] := ⟨_, rfl⟩
    rw [← hUe] at hU
    have hUl : U.length = 0 := by rw [hUe]; rfl
    have hUs : ∀ i, i + 1 < U.length → U.getD i [] = d.rows.getD i [] := fun i hi => by omega
    have hUa : ∀ i, U.length ≤ i → i < d.rows.length → _ := fun i h0 hi => hda i (by omega) hi
    obtain ⟨j0, hl0⟩ := lF (m := false) (o := true) (k := k) (n := n) (s := s) (t := t) (a := a) hd hUs (by omega)
    obtain ⟨j1, hl1⟩ := lM (m := false) (o := true) (k := k) (n := n) (s := s) (t := t) (a := a) hd hUa (by omega)
    have hB := back_over (k := k) (n := n) (s := s) (t := t) (a := a) hlt
    obtain ⟨K, hKe⟩ : ∃ K : List (List Dat), K = [] := ⟨_, rfl⟩
    rw [← hKe] at hB
    have hKl : K.length = 0 := by rw [hKe]; rfl
    have hKs : ∀ i, i + 1 < K.length → K.getD i [] = d.rows.getD i [] := fun i hi => by omega
    obtain ⟨j2, hl2⟩ := lN (m := false) (o := true) (k := k) (n := n) (s := s) (t := t) (a := a) hd hKs (by omega)
    apply fb_p50 d cl k n s t a (vUnwind3 := U) (j0 := j0) (j1 := j1) (vBack7 := K) (j2 := j2) (vwakes1 := true)
    all_goals first
      | with_reducible exact g0
      | with_reducible exact t0
      | exact hU
      | exact hB
      | exact wakes_pu
      | exact hl0
      | exact hl1
      | exact hl2
      | (with_reducible refine inK64_iff.2 ?_; omega)
      | (with_reducible refine inK64_iff.2 ?_; omega)
      | (with_reducible refine inB_iff.2 ?_; omega)
      | (rw [decide_eq_true (show (d.rows.length : Int) < 2 by omega)]; rfl)
      | (rw [decide_eq_false (show ¬ (d.rows.length : Int) < 2 by omega)]; rfl)
      | (rw [decide_eq_true (show (U.length : Int) = 0 by omega)]; rfl)
      | (rw [decide_eq_false (show ¬ (U.length : Int) = 0 by omega)]; rfl)
      | exact decide_eq_false (by omega)
      | (rw [decide_eq_true (show (K.length : Int) = (d.rows.length : Int) - 1 by omega)]; rfl)
  · obtain ⟨q, e0⟩ : ∃ q, down d.rows d.rows.length = q + 1 := ⟨down d.rows d.rows.length - 1, by omega⟩
    obtain ⟨row, hrow⟩ : ∃ row, d.rows[q]? = some row := ⟨_, List.getElem?_eq_getElem (by omega)⟩
    by_cases hk : (row.getD 0 .o).int = 0
    · have hrq := hrow
      have hql := (List.getElem?_eq_some_iff.1 hrow).1
      have hgq := getD_of hrow
      have hwq := hw _ (List.mem_of_getElem? hrow)
      have hnot := down_at d.rows d.rows.length q e0
      rw [hgq] at hnot
      have hU := unwind_code (cl := cl) (k := k) (n := n) (s := s) (t := t) (a := a) hb hs h1 h2 e0 hrow hk
      obtain ⟨U, hUe⟩ : ∃ U : List (List Dat), U = (d.rows.set q (unRow row cl (tmR k n s t a))).take (q + 1) := ⟨_, rfl⟩
      rw [← hUe] at hU
      have hUl : U.length = q + 1 := by rw [hUe, List.length_take, List.length_set]; omega
      have hUg : U.getD q [] = unRow row cl (tmR k n s t a) := by rw [hUe, getD_take (by omega), getD_self hql]
      have hUs : ∀ i, i + 1 < U.length → U.getD i [] = d.rows.getD i [] := fun i hi => by rw [hUe, getD_take (by omega), getD_set (by omega)]
      have hUa : ∀ i, U.length ≤ i → i < d.rows.length → _ := fun i h0 hi => hda i (by omega) hi
      have eU : Int.toNat ((U.length : Int) - 1) = q := by omega
      have hut := unRow_tries row cl (tmR k n s t a) hwq
      have h6 := l6 q hql
      have hX : 1 ≤ (row.getD 6 .o).rows.length := by omega
      rw [hgq] at h6
      obtain ⟨j0, hl0⟩ := lF (m := false) (o := false) (k := k) (n := n) (s := s) (t := t) (a := a) hd hUs (by omega)
      obtain ⟨j1, hl1⟩ := lM (m := false) (o := false) (k := k) (n := n) (s := s) (t := t) (a := a) hd hUa (by omega)
      have hB := back_over (k := k) (n := n) (s := s) (t := t) (a := a) hlt
      obtain ⟨K, hKe⟩ : ∃ K : List (List Dat), K = [] := ⟨_, rfl⟩
      rw [← hKe] at hB
      have hKl : K.length = 0 := by rw [hKe]; rfl
      have hKs : ∀ i, i + 1 < K.length → K.getD i [] = d.rows.getD i [] := fun i hi => by omega
      obtain ⟨j2, hl2⟩ := lN (m := false) (o := true) (k := k) (n := n) (s := s) (t := t) (a := a) hd hKs (by omega)
      apply fb_p75 d cl k n s t a (vUnwind3 := U) (j0 := j0) (j1 := j1) (vBack7 := K) (j2 := j2) (vwakes1 := true)
      all_goals first
        | with_reducible exact g0
        | with_reducible exact t0
        | exact hU
        | exact hB
        | exact wakes_pu
        | exact hl0
        | exact hl1
        | exact hl2
        | (with_reducible refine inK64_iff.2 ?_; simp only [eU, hUg, hut]; omega)
        | (with_reducible refine inK64_iff.2 ?_; omega)
        | (with_reducible refine inB_iff.2 ?_; omega)
        | (rw [eU]; simp only [hgq, hk]; simp; done)
        | (rw [eU]; simp only [hgq, hUg, hut]; rw [decide_eq_true (show _ by omega)]; rfl)
        | (rw [decide_eq_true (show (d.rows.length : Int) < 2 by omega)]; rfl)
        | (rw [decide_eq_false (show ¬ (d.rows.length : Int) < 2 by omega)]; rfl)
        | (rw [decide_eq_true (show (U.length : Int) = 0 by omega)]; rfl)
        | (rw [decide_eq_false (show ¬ (U.length : Int) = 0 by omega)]; rfl)
        | exact decide_eq_false (by omega)
        | (rw [decide_eq_true (show (K.length : Int) = (d.rows.length : Int) - 1 by omega)]; rfl)
    · have hrq := hrow
      have hql := (List.getElem?_eq_some_iff.1 hrow).1
      have hgq := getD_of hrow
      have hwq := hw _ (List.mem_of_getElem? hrow)
      have hnot := down_at d.rows d.rows.length q e0
      rw [hgq] at hnot
      have hU := unwind_mach (cl := cl) (k := k) (n := n) (s := s) (t := t) (a := a) hb hs h1 h2 e0 hrow hk
      obtain ⟨U, hUe⟩ : ∃ U : List (List Dat), U = d.rows.take (q + 1) := ⟨_, rfl⟩
      rw [← hUe] at hU
      have hUl : U.length = q + 1 := by rw [hUe, List.length_take]; omega
      have hUg : U.getD q [] = row := by rw [hUe, getD_take (by omega)]; exact hgq
      have hUs : ∀ i, i + 1 < U.length → U.getD i [] = d.rows.getD i [] := fun i hi => by rw [hUe, getD_take (by omega)]
      have hUa : ∀ i, U.length ≤ i → i < d.rows.length → _ := fun i h0 hi => hda i (by omega) hi
      have eU : Int.toNat ((U.length : Int) - 1) = q := by omega
      have hSF : Pu 9 [agR 43 (U.getD (Int.toNat ((U.length : Int) - 1)) []), agR 43 (d.rows.getD (Int.toNat ((U.length : Int) - 1)) [])] (.b true) := by
        rw [eU, hUg, hgq]
        exact sameFrame_in fun x hx => hd.sub (List.mem_of_getElem? hrow) hx
      obtain ⟨j0, hl0⟩ := lF (m := true) (o := false) (k := k) (n := n) (s := s) (t := t) (a := a) hd hUs (by omega)
      obtain ⟨j1, hl1⟩ := lM (m := true) (o := false) (k := k) (n := n) (s := s) (t := t) (a := a) hd hUa (by omega)
      have hB := back_over (k := k) (n := n) (s := s) (t := t) (a := a) hlt
      obtain ⟨K, hKe⟩ : ∃ K : List (List Dat), K = [] := ⟨_, rfl⟩
      rw [← hKe] at hB
      have hKl : K.length = 0 := by rw [hKe]; rfl
      have hKs : ∀ i, i + 1 < K.length → K.getD i [] = d.rows.getD i [] := fun i hi => by omega
      obtain ⟨j2, hl2⟩ := lN (m := false) (o := true) (k := k) (n := n) (s := s) (t := t) (a := a) hd hKs (by omega)
      apply fb_p24 d cl k n s t a (vUnwind3 := U) (j0 := j0) (j1 := j1) (vBack7 := K) (j2 := j2) (vwakes1 := true)
      all_goals first
        | with_reducible exact g0
        | with_reducible exact t0
        | exact hU
        | exact hB
        | exact wakes_pu
        | exact hl0
        | exact hl1
        | exact hl2
        | exact hSF
        | (with_reducible refine inK64_iff.2 ?_; simp only [eU, hgq]; omega)
        | (with_reducible refine inK64_iff.2 ?_; omega)
        | (with_reducible refine inB_iff.2 ?_; omega)
        | (rw [eU]; simp only [hgq, hk]; simp; done)
        | (rw [decide_eq_true (show (d.rows.length : Int) < 2 by omega)]; rfl)
        | (rw [decide_eq_false (show ¬ (d.rows.length : Int) < 2 by omega)]; rfl)
        | (rw [decide_eq_true (show (U.length : Int) = 0 by omega)]; rfl)
        | (rw [decide_eq_false (show ¬ (U.length : Int) = 0 by omega)]; rfl)
        | exact decide_eq_false (by omega)
        | (rw [decide_eq_true (show (K.length : Int) = (d.rows.length : Int) - 1 by omega)]; rfl)
  · obtain ⟨rp, hrp⟩ : ∃ rp, d.rows[d.rows.length - 2]? = some rp := ⟨_, List.getElem?_eq_getElem (by omega)⟩
    by_cases hkp : (rp.getD 0 .o).int = 0
    · have hU := unwind_over (k := k) (n := n) (s := s) (t := t) (a := a) hb hs h1 h2 e0
      obtain ⟨U, hUe⟩ : ∃ U : List (List Dat), U = [] := ⟨_, rfl⟩
      rw [← hUe] at hU
      have hUl : U.length = 0 := by rw [hUe]; rfl
      have hUs : ∀ i, i + 1 < U.length → U.getD i [] = d.rows.getD i [] := fun i hi => by omega
      have hUa : ∀ i, U.length ≤ i → i < d.rows.length → _ := fun i h0 hi => hda i (by omega) hi
      obtain ⟨j0, hl0⟩ := lF (m := false) (o := true) (k := k) (n := n) (s := s) (t := t) (a := a) hd hUs (by omega)
      obtain ⟨j1, hl1⟩ := lM (m := false) (o := true) (k := k) (n := n) (s := s) (t := t) (a := a) hd hUa (by omega)
      have hp2 : d.rows.length - 2 < d.rows.length := by omega
      have hgp := getD_of hrp
      have hwp := hw _ (List.mem_of_getElem? hrp)
      have hB := back_kode (k := k) (n := n) (s := s) (t := t) (a := a) hb hs hge hrp hkp
      obtain ⟨K, hKe⟩ : ∃ K : List (List Dat), K = (d.rows.take (d.rows.length - 1)).set (d.rows.length - 2) (rp.set 5 (.r ((rp.getD 5 .o).rows ++ [tmR k n s t a]))) := ⟨_, rfl⟩
      rw [← hKe] at hB
      have hKl : K.length = d.rows.length - 1 := by rw [hKe, List.length_set, List.length_take]; omega
      have hKs : ∀ i, i + 1 < K.length → K.getD i [] = d.rows.getD i [] := fun i hi => by rw [hKe, getD_set (by omega), getD_take (by omega)]
      have hKg : K.getD (d.rows.length - 2) [] = rp.set 5 (.r ((rp.getD 5 .o).rows ++ [tmR k n s t a])) := by rw [hKe, getD_self (by rw [List.length_take]; omega)]
      have eK : Int.toNat ((K.length : Int) - 1) = d.rows.length - 2 := by omega
      have hbs := backRow_stack rp (tmR k n s t a) hwp
      have h5 := l5 (d.rows.length - 2) hp2
      rw [hgp] at h5
      obtain ⟨j2, hl2⟩ := lN (m := false) (o := false) (k := k) (n := n) (s := s) (t := t) (a := a) hd hKs (by omega)
      apply fb_p54 d cl k n s t a (vUnwind3 := U) (j0 := j0) (j1 := j1) (vBack7 := K) (j2 := j2) (vwakes1 := true)
      all_goals first
        | with_reducible exact g0
        | with_reducible exact t0
        | exact hU
        | exact hB
        | exact wakes_pu
        | exact hl0
        | exact hl1
        | exact hl2
        | (with_reducible refine inK64_iff.2 ?_; simp only [eK, hgp]; omega)
        | (with_reducible refine inK64_iff.2 ?_; omega)
        | (with_reducible refine inB_iff.2 ?_; omega)
        | (rw [eK]; simp only [hgp, hkp]; simp; done)
        | (rw [eK]; simp only [hgp, hKg, hbs]; refine decide_eq_true ?_; omega)
        | (rw [decide_eq_true (show (d.rows.length : Int) < 2 by omega)]; rfl)
        | (rw [decide_eq_false (show ¬ (d.rows.length : Int) < 2 by omega)]; rfl)
        | (rw [decide_eq_true (show (U.length : Int) = 0 by omega)]; rfl)
        | (rw [decide_eq_false (show ¬ (U.length : Int) = 0 by omega)]; rfl)
        | exact decide_eq_false (by omega)
        | (rw [decide_eq_true (show (K.length : Int) = (d.rows.length : Int) - 1 by omega)]; rfl)
    · have hU := unwind_over (k := k) (n := n) (s := s) (t := t) (a := a) hb hs h1 h2 e0
      obtain ⟨U, hUe⟩ : ∃ U : List (List Dat), U = [] := ⟨_, rfl⟩
      rw [← hUe] at hU
      have hUl : U.length = 0 := by rw [hUe]; rfl
      have hUs : ∀ i, i + 1 < U.length → U.getD i [] = d.rows.getD i [] := fun i hi => by omega
      have hUa : ∀ i, U.length ≤ i → i < d.rows.length → _ := fun i h0 hi => hda i (by omega) hi
      obtain ⟨j0, hl0⟩ := lF (m := false) (o := true) (k := k) (n := n) (s := s) (t := t) (a := a) hd hUs (by omega)
      obtain ⟨j1, hl1⟩ := lM (m := false) (o := true) (k := k) (n := n) (s := s) (t := t) (a := a) hd hUa (by omega)
      have hp2 : d.rows.length - 2 < d.rows.length := by omega
      have hgp := getD_of hrp
      have hwp := hw _ (List.mem_of_getElem? hrp)
      have hB := back_mach (k := k) (n := n) (s := s) (t := t) (a := a) hb hs hge hrp hkp
      obtain ⟨K, hKe⟩ : ∃ K : List (List Dat), K = d.rows.take (d.rows.length - 1) := ⟨_, rfl⟩
      rw [← hKe] at hB
      have hKl : K.length = d.rows.length - 1 := by rw [hKe, List.length_take]; omega
      have hKs : ∀ i, i + 1 < K.length → K.getD i [] = d.rows.getD i [] := fun i hi => by rw [hKe, getD_take (by omega)]
      have eK : Int.toNat ((K.length : Int) - 1) = d.rows.length - 2 := by omega
      obtain ⟨j2, hl2⟩ := lN (m := true) (o := false) (k := k) (n := n) (s := s) (t := t) (a := a) hd hKs (by omega)
      apply fb_p47 d cl k n s t a (vUnwind3 := U) (j0 := j0) (j1 := j1) (vBack7 := K) (j2 := j2) (vwakes1 := true)
      all_goals first
        | with_reducible exact g0
        | with_reducible exact t0
        | exact hU
        | exact hB
        | exact wakes_pu
        | exact hl0
        | exact hl1
        | exact hl2
        | (with_reducible refine inK64_iff.2 ?_; simp only [eK, hgp]; omega)
        | (with_reducible refine inK64_iff.2 ?_; omega)
        | (with_reducible refine inB_iff.2 ?_; omega)
        | (rw [eK]; simp only [hgp, hkp]; simp; done)
        | (rw [decide_eq_true (show (d.rows.length : Int) < 2 by omega)]; rfl)
        | (rw [decide_eq_false (show ¬ (d.rows.length : Int) < 2 by omega)]; rfl)
        | (rw [decide_eq_true (show (U.length : Int) = 0 by omega)]; rfl)
        | (rw [decide_eq_false (show ¬ (U.length : Int) = 0 by omega)]; rfl)
        | exact decide_eq_false (by omega)
        | (rw [decide_eq_true (show (K.length : Int) = (d.rows.length : Int) - 1 by omega)]; rfl)
  · obtain ⟨q, e0⟩ : ∃ q, down d.rows d.rows.length = q + 1 := ⟨down d.rows d.rows.length - 1, by omega⟩
    obtain ⟨row, hrow⟩ : ∃ row, d.rows[q]? = some row := ⟨_, List.getElem?_eq_getElem (by omega)⟩
    obtain ⟨rp, hrp⟩ : ∃ rp, d.rows[d.rows.length - 2]? = some rp := ⟨_, List.getElem?_eq_getElem (by omega)⟩
    by_cases hk : (row.getD 0 .o).int = 0
    · by_cases hkp : (rp.getD 0 .o).int = 0
      · have hrq := hrow
        have hql := (List.getElem?_eq_some_iff.1 hrow).1
        have hgq := getD_of hrow
        have hwq := hw _ (List.mem_of_getElem? hrow)
        have hnot := down_at d.rows d.rows.length q e0
        rw [hgq] at hnot
        have hU := unwind_code (cl := cl) (k := k) (n := n) (s := s) (t := t) (a := a) hb hs h1 h2 e0 hrow hk
        obtain ⟨U, hUe⟩ : ∃ U : List (List Dat), U = (d.rows.set q (unRow row cl (tmR k n s t a))).take (q + 1) := ⟨_, rfl⟩
        rw [← hUe] at hU
        have hUl : U.length = q + 1 := by rw [hUe, List.length_take, List.length_set]; omega
        have hUg : U.getD q [] = unRow row cl (tmR k n s t a) := by rw [hUe, getD_take (by omega), getD_self hql]
        have hUs : ∀ i, i + 1 < U.length → U.getD i [] = d.rows.getD i [] := fun i hi => by rw [hUe, getD_take (by omega), getD_set (by omega)]
        have hUa : ∀ i, U.length ≤ i → i < d.rows.length → _ := fun i h0 hi => hda i (by omega) hi
        have eU : Int.toNat ((U.length : Int) - 1) = q := by omega
        have hut := unRow_tries row cl (tmR k n s t a) hwq
        have h6 := l6 q hql
        have hX : 1 ≤ (row.getD 6 .o).rows.length := by omega
        rw [hgq] at h6
        obtain ⟨j0, hl0⟩ := lF (m := false) (o := false) (k := k) (n := n) (s := s) (t := t) (a := a) hd hUs (by omega)
        obtain ⟨j1, hl1⟩ := lM (m := false) (o := false) (k := k) (n := n) (s := s) (t := t) (a := a) hd hUa (by omega)
        have hp2 : d.rows.length - 2 < d.rows.length := by omega
        have hgp := getD_of hrp
        have hwp := hw _ (List.mem_of_getElem? hrp)
        have hB := back_kode (k := k) (n := n) (s := s) (t := t) (a := a) hb hs hge hrp hkp
        obtain ⟨K, hKe⟩ : ∃ K : List (List Dat), K = (d.rows.take (d.rows.length - 1)).set (d.rows.length - 2) (rp.set 5 (.r ((rp.getD 5 .o).rows ++ [tmR k n s t a]))) := ⟨_, rfl⟩
        rw [← hKe] at hB
        have hKl : K.length = d.rows.length - 1 := by rw [hKe, List.length_set, List.length_take]; omega
        have hKs : ∀ i, i + 1 < K.length → K.getD i [] = d.rows.getD i [] := fun i hi => by rw [hKe, getD_set (by omega), getD_take (by omega)]
        have hKg : K.getD (d.rows.length - 2) [] = rp.set 5 (.r ((rp.getD 5 .o).rows ++ [tmR k n s t a])) := by rw [hKe, getD_self (by rw [List.length_take]; omega)]
        have eK : Int.toNat ((K.length : Int) - 1) = d.rows.length - 2 := by omega
        have hbs := backRow_stack rp (tmR k n s t a) hwp
        have h5 := l5 (d.rows.length - 2) hp2
        rw [hgp] at h5
        obtain ⟨j2, hl2⟩ := lN (m := false) (o := false) (k := k) (n := n) (s := s) (t := t) (a := a) hd hKs (by omega)
        apply fb_p79 d cl k n s t a (vUnwind3 := U) (j0 := j0) (j1 := j1) (vBack7 := K) (j2 := j2) (vwakes1 := true)
        all_goals first
          | with_reducible exact g0
          | with_reducible exact t0
          | exact hU
          | exact hB
          | exact wakes_pu
          | exact hl0
          | exact hl1
          | exact hl2
          | (with_reducible refine inK64_iff.2 ?_; simp only [eU, hUg, hut, eK, hgp]; omega)
          | (with_reducible refine inK64_iff.2 ?_; omega)
          | (with_reducible refine inB_iff.2 ?_; omega)
          | (rw [eU]; simp only [hgq, hk]; simp; done)
          | (rw [eU]; simp only [hgq, hUg, hut]; rw [decide_eq_true (show _ by omega)]; rfl)
          | (rw [eK]; simp only [hgp, hkp]; simp; done)
          | (rw [eK]; simp only [hgp, hKg, hbs]; refine decide_eq_true ?_; omega)
          | (rw [decide_eq_true (show (d.rows.length : Int) < 2 by omega)]; rfl)
          | (rw [decide_eq_false (show ¬ (d.rows.length : Int) < 2 by omega)]; rfl)
          | (rw [decide_eq_true (show (U.length : Int) = 0 by omega)]; rfl)
          | (rw [decide_eq_false (show ¬ (U.length : Int) = 0 by omega)]; rfl)
          | exact decide_eq_false (by omega)
          | (rw [decide_eq_true (show (K.length : Int) = (d.rows.length : Int) - 1 by omega)]; rfl)
      · have hrq := hrow
        have hql := (List.getElem?_eq_some_iff.1 hrow).1
        have hgq := getD_of hrow
        have hwq := hw _ (List.mem_of_getElem? hrow)
        have hnot := down_at d.rows d.rows.length q e0
        rw [hgq] at hnot
        have hU := unwind_code (cl := cl) (k := k) (n := n) (s := s) (t := t) (a := a) hb hs h1 h2 e0 hrow hk
        obtain ⟨U, hUe⟩ : ∃ U : List (List Dat), U = (d.rows.set q (unRow row cl (tmR k n s t a))).take (q + 1) := ⟨_, rfl⟩
        rw [← hUe] at hU
        have hUl : U.length = q + 1 := by rw [hUe, List.length_take, List.length_set]; omega
        have hUg : U.getD q [] = unRow row cl (tmR k n s t a) := by rw [hUe, getD_take (by omega), getD_self hql]
        have hUs : ∀ i, i + 1 < U.length → U.getD i [] = d.rows.getD i [] := fun i hi => by rw [hUe, getD_take (by omega), getD_set (by omega)]
        have hUa : ∀ i, U.length ≤ i → i < d.rows.length → _ := fun i h0 hi => hda i (by omega) hi
        have eU : Int.toNat ((U.length : Int) - 1) = q := by omega
        have hut := unRow_tries row cl (tmR k n s t a) hwq
        have h6 := l6 q hql
        have hX : 1 ≤ (row.getD 6 .o).rows.length := by omega
        rw [hgq] at h6
        obtain ⟨j0, hl0⟩ := lF (m := false) (o := false) (k := k) (n := n) (s := s) (t := t) (a := a) hd hUs (by omega)
        obtain ⟨j1, hl1⟩ := lM (m := false) (o := false) (k := k) (n := n) (s := s) (t := t) (a := a) hd hUa (by omega)
        have hp2 : d.rows.length - 2 < d.rows.length := by omega
        have hgp := getD_of hrp
        have hwp := hw _ (List.mem_of_getElem? hrp)
        have hB := back_mach (k := k) (n := n) (s := s) (t := t) (a := a) hb hs hge hrp hkp
        obtain ⟨K, hKe⟩ : ∃ K : List (List Dat), K = d.rows.take (d.rows.length - 1) := ⟨_, rfl⟩
        rw [← hKe] at hB
        have hKl : K.length = d.rows.length - 1 := by rw [hKe, List.length_take]; omega
        have hKs : ∀ i, i + 1 < K.length → K.getD i [] = d.rows.getD i [] := fun i hi => by rw [hKe, getD_take (by omega)]
        have eK : Int.toNat ((K.length : Int) - 1) = d.rows.length - 2 := by omega
        obtain ⟨j2, hl2⟩ := lN (m := true) (o := false) (k := k) (n := n) (s := s) (t := t) (a := a) hd hKs (by omega)
        apply fb_p72 d cl k n s t a (vUnwind3 := U) (j0 := j0) (j1 := j1) (vBack7 := K) (j2 := j2) (vwakes1 := true)
        all_goals first
          | with_reducible exact g0
          | with_reducible exact t0
          | exact hU
          | exact hB
          | exact wakes_pu
          | exact hl0
          | exact hl1
          | exact hl2
          | (with_reducible refine inK64_iff.2 ?_; simp only [eU, hUg, hut, eK, hgp]; omega)
          | (with_reducible refine inK64_iff.2 ?_; omega)
          | (with_reducible refine inB_iff.2 ?_; omega)
          | (rw [eU]; simp only [hgq, hk]; simp; done)
          | (rw [eU]; simp only [hgq, hUg, hut]; rw [decide_eq_true (show _ by omega)]; rfl)
          | (rw [eK]; simp only [hgp, hkp]; simp; done)
          | (rw [decide_eq_true (show (d.rows.length : Int) < 2 by omega)]; rfl)
          | (rw [decide_eq_false (show ¬ (d.rows.length : Int) < 2 by omega)]; rfl)
          | (rw [decide_eq_true (show (U.length : Int) = 0 by omega)]; rfl)
          | (rw [decide_eq_false (show ¬ (U.length : Int) = 0 by omega)]; rfl)
          | exact decide_eq_false (by omega)
          | (rw [decide_eq_true (show (K.length : Int) = (d.rows.length : Int) - 1 by omega)]; rfl)
    · by_cases hkp : (rp.getD 0 .o).int = 0
      · have hrq := hrow
        have hql := (List.getElem?_eq_some_iff.1 hrow).1
        have hgq := getD_of hrow
        have hwq := hw _ (List.mem_of_getElem? hrow)
        have hnot := down_at d.rows d.rows.length q e0
        rw [hgq] at hnot
        have hU := unwind_mach (cl := cl) (k := k) (n := n) (s := s) (t := t) (a := a) hb hs h1 h2 e0 hrow hk
        obtain ⟨U, hUe⟩ : ∃ U : List (List Dat), U = d.rows.take (q + 1) := ⟨_, rfl⟩
        rw [← hUe] at hU
        have hUl : U.length = q + 1 := by rw [hUe, List.length_take]; omega
        have hUg : U.getD q [] = row := by rw [hUe, getD_take (by omega)]; exact hgq
        have hUs : ∀ i, i + 1 < U.length → U.getD i [] = d.rows.getD i [] := fun i hi => by rw [hUe, getD_take (by omega)]
        have hUa : ∀ i, U.length ≤ i → i < d.rows.length → _ := fun i h0 hi => hda i (by omega) hi
        have eU : Int.toNat ((U.length : Int) - 1) = q := by omega
        have hSF : Pu 9 [agR 43 (U.getD (Int.toNat ((U.length : Int) - 1)) []), agR 43 (d.rows.getD (Int.toNat ((U.length : Int) - 1)) [])] (.b true) := by
          rw [eU, hUg, hgq]
          exact sameFrame_in fun x hx => hd.sub (List.mem_of_getElem? hrow) hx
        obtain ⟨j0, hl0⟩ := lF (m := true) (o := false) (k := k) (n := n) (s := s) (t := t) (a := a) hd hUs (by omega)
        obtain ⟨j1, hl1⟩ := lM (m := true) (o := false) (k := k) (n := n) (s := s) (t := t) (a := a) hd hUa (by omega)
        have hp2 : d.rows.length - 2 < d.rows.length := by omega
        have hgp := getD_of hrp
        have hwp := hw _ (List.mem_of_getElem? hrp)
        have hB := back_kode (k := k) (n := n) (s := s) (t := t) (a := a) hb hs hge hrp hkp
        obtain ⟨K, hKe⟩ : ∃ K : List (List Dat), K = (d.rows.take (d.rows.length - 1)).set (d.rows.length - 2) (rp.set 5 (.r ((rp.getD 5 .o).rows ++ [tmR k n s t a]))) := ⟨_, rfl⟩
        rw [← hKe] at hB
        have hKl : K.length = d.rows.length - 1 := by rw [hKe, List.length_set, List.length_take]; omega
        have hKs : ∀ i, i + 1 < K.length → K.getD i [] = d.rows.getD i [] := fun i hi => by rw [hKe, getD_set (by omega), getD_take (by omega)]
        have hKg : K.getD (d.rows.length - 2) [] = rp.set 5 (.r ((rp.getD 5 .o).rows ++ [tmR k n s t a])) := by rw [hKe, getD_self (by rw [List.length_take]; omega)]
        have eK : Int.toNat ((K.length : Int) - 1) = d.rows.length - 2 := by omega
        have hbs := backRow_stack rp (tmR k n s t a) hwp
        have h5 := l5 (d.rows.length - 2) hp2
        rw [hgp] at h5
        obtain ⟨j2, hl2⟩ := lN (m := false) (o := false) (k := k) (n := n) (s := s) (t := t) (a := a) hd hKs (by omega)
        apply fb_p28 d cl k n s t a (vUnwind3 := U) (j0 := j0) (j1 := j1) (vBack7 := K) (j2 := j2) (vwakes1 := true)
        all_goals first
          | with_reducible exact g0
          | with_reducible exact t0
          | exact hU
          | exact hB
          | exact wakes_pu
          | exact hl0
          | exact hl1
          | exact hl2
          | exact hSF
          | (with_reducible refine inK64_iff.2 ?_; simp only [eU, hgq, eK, hgp]; omega)
          | (with_reducible refine inK64_iff.2 ?_; omega)
          | (with_reducible refine inB_iff.2 ?_; omega)
          | (rw [eU]; simp only [hgq, hk]; simp; done)
          | (rw [eK]; simp only [hgp, hkp]; simp; done)
          | (rw [eK]; simp only [hgp, hKg, hbs]; refine decide_eq_true ?_; omega)
          | (rw [decide_eq_true (show (d.rows.length : Int) < 2 by omega)]; rfl)
          | (rw [decide_eq_false (show ¬ (d.rows.length : Int) < 2 by omega)]; rfl)
          | (rw [decide_eq_true (show (U.length : Int) = 0 by omega)]; rfl)
          | (rw [decide_eq_false (show ¬ (U.length : Int) = 0 by omega)]; rfl)
          | exact decide_eq_false (by omega)
          | (rw [decide_eq_true (show (K.length : Int) = (d.rows.length : Int) - 1 by omega)]; rfl)
      · have hrq := hrow
        have hql := (List.getElem?_eq_some_iff.1 hrow).1
        have hgq := getD_of hrow
        have hwq := hw _ (List.mem_of_getElem? hrow)
        have hnot := down_at d.rows d.rows.length q e0
        rw [hgq] at hnot
        have hU := unwind_mach (cl := cl) (k := k) (n := n) (s := s) (t := t) (a := a) hb hs h1 h2 e0 hrow hk
        obtain ⟨U, hUe⟩ : ∃ U : List (List Dat), U = d.rows.take (q + 1) := ⟨_, rfl⟩
        rw [← hUe] at hU
        have hUl : U.length = q + 1 := by rw [hUe, List.length_take]; omega
        have hUg : U.getD q [] = row := by rw [hUe, getD_take (by omega)]; exact hgq
        have hUs : ∀ i, i + 1 < U.length → U.getD i [] = d.rows.getD i [] := fun i hi => by rw [hUe, getD_take (by omega)]
        have hUa : ∀ i, U.length ≤ i → i < d.rows.length → _ := fun i h0 hi => hda i (by omega) hi
        have eU : Int.toNat ((U.length : Int) - 1) = q := by omega
        have hSF : Pu 9 [agR 43 (U.getD (Int.toNat ((U.length : Int) - 1)) []), agR 43 (d.rows.getD (Int.toNat ((U.length : Int) - 1)) [])] (.b true) := by
          rw [eU, hUg, hgq]
          exact sameFrame_in fun x hx => hd.sub (List.mem_of_getElem? hrow) hx
        obtain ⟨j0, hl0⟩ := lF (m := true) (o := false) (k := k) (n := n) (s := s) (t := t) (a := a) hd hUs (by omega)
        obtain ⟨j1, hl1⟩ := lM (m := true) (o := false) (k := k) (n := n) (s := s) (t := t) (a := a) hd hUa (by omega)
        have hp2 : d.rows.length - 2 < d.rows.length := by omega
        have hgp := getD_of hrp
        have hwp := hw _ (List.mem_of_getElem? hrp)
        have hB := back_mach (k := k) (n := n) (s := s) (t := t) (a := a) hb hs hge hrp hkp
        obtain ⟨K, hKe⟩ : ∃ K : List (List Dat), K = d.rows.take (d.rows.length - 1) := ⟨_, rfl⟩
        rw [← hKe] at hB
        have hKl : K.length = d.rows.length - 1 := by rw [hKe, List.length_take]; omega
        have hKs : ∀ i, i + 1 < K.length → K.getD i [] = d.rows.getD i [] := fun i hi => by rw [hKe, getD_take (by omega)]
        have eK : Int.toNat ((K.length : Int) - 1) = d.rows.length - 2 := by omega
        obtain ⟨j2, hl2⟩ := lN (m := true) (o := false) (k := k) (n := n) (s := s) (t := t) (a := a) hd hKs (by omega)
        apply fb_p21 d cl k n s t a (vUnwind3 := U) (j0 := j0) (j1 := j1) (vBack7 := K) (j2 := j2) (vwakes1 := true)
        all_goals first
          | with_reducible exact g0
          | with_reducible exact t0
          | exact hU
          | exact hB
          | exact wakes_pu
          | exact hl0
          | exact hl1
          | exact hl2
          | exact hSF
          | (with_reducible refine inK64_iff.2 ?_; simp only [eU, hgq, eK, hgp]; omega)
          | (with_reducible refine inK64_iff.2 ?_; omega)
          | (with_reducible refine inB_iff.2 ?_; omega)
          | (rw [eU]; simp only [hgq, hk]; simp; done)
          | (rw [eK]; simp only [hgp, hkp]; simp; done)
          | (rw [decide_eq_true (show (d.rows.length : Int) < 2 by omega)]; rfl)
          | (rw [decide_eq_false (show ¬ (d.rows.length : Int) < 2 by omega)]; rfl)
          | (rw [decide_eq_true (show (U.length : Int) = 0 by omega)]; rfl)
          | (rw [decide_eq_false (show ¬ (U.length : Int) = 0 by omega)]; rfl)
          | exact decide_eq_false (by omega)
          | (rw [decide_eq_true (show (K.length : Int) = (d.rows.length : Int) - 1 by omega)]; rfl)
end Go.Proofs.YtgjfdbbghefdbaaGreatDoor.Lt
