/-
  The first bind of a name counts: the plain law.
  A guard is its tests, in any order: the plain law.
-/
import Derived.Test.YtlhobpknflobgaaGreatDoorGx2
import Derived.Test.YtlhobpknflobgaaGreatDoorT01
namespace Go.Proofs.YtlhobpknflobgaaGreatDoor
open Go.RowKit

/-- A name, as a tree. -/
def vN (s : ByteArray) : Tr := .mk 5 0 s ⟨#[]⟩ []
theorem vN_grd {s : ByteArray} (h : nameA s = true) : grdB (vN s) = true := by
  have h1 : fitsB (vN s) = true := by kernel_rfl
  have h2 : leafB (vN s) = true := by
    unfold leafB
    rw [if_pos (show (vN s).k = 5 from rfl)]
    have hb : bareB (vN s) false true false false = true := by
      show ((false || ((0 : Int) == 0)) && (true || emp s) && (false || emp ⟨#[]⟩) && (false || (((0 : Nat) : Int) == 0))) = true
      rw [show emp ⟨#[]⟩ = true by kernel_rfl]; rfl
    rw [hb]; exact h
  unfold grdB
  rw [h1, grd_eq, h2]
  rfl
theorem gmay_all {l : List Bd} : gmayB l = true ↔ ∀ b ∈ l, chkT b.t = 0 := by
  unfold gmayB
  rw [Bool.not_eq_true', List.any_eq_false]
  constructor
  · intro h b hb
    have := h b hb
    simpa [badT] using this
  · intro h b hb
    simp [badT, h b hb]
theorem bfind_first (s : ByteArray) (t : Tr) (l : List Bd) : bfind (⟨s, t⟩ :: l) s = some t := by
  unfold bfind
  rw [List.find?_cons]
  simp
theorem vN_val {s : ByteArray} {l : List Bd} (hn : nameA s = true) (hu : undB s = false) (hm : gmayB l = true) : valS (vN s) l = match bfind l s with | some y => (y, (0 : Int)) | none => (zeroT, 93) := by
  unfold valS
  rw [vN_grd hn, hm, if_pos (by rfl), gval_eq, if_pos (show (vN s).k = 5 from rfl)]
  show (match gvarS l s with | some y => (y, (0 : Int)) | none => (zeroT, 93)) = _
  unfold gvarS
  rw [if_neg (by rw [hu]; simp)]
theorem first_ahead {s : ByteArray} {t : Tr} {l : List Bd} (hn : nameA s = true) (hu : undB s = false) (hc : chkT t = 0) (hm : gmayB l = true) : valS (vN s) (⟨s, t⟩ :: l) = (t, 0) := by
  rw [vN_val hn hu, bfind_first]
  rw [gmay_all]
  intro b hb
  rcases List.mem_cons.1 hb with rfl | hb
  · exact hc
  · exact gmay_all.1 hm b hb
theorem first_behind {s : ByteArray} {t : Tr} {l : List Bd} (hn : nameA s = true) (hu : undB s = false) (hc : chkT t = 0) (hm : gmayB l = true) : valS (vN s) (l ++ [⟨s, t⟩]) = ((bfind l s).getD t, 0) := by
  rw [vN_val hn hu, bfind_app, bfind_first]
  · cases bfind l s <;> rfl
  · rw [gmay_all]
    intro b hb
    rcases List.mem_append.1 hb with hb | hb
    · exact gmay_all.1 hm b hb
    · simp only [List.mem_singleton] at hb
      subst hb; exact hc
theorem first_there {s : ByteArray} {l : List Bd} (hn : nameA s = true) (hu : undB s = false) (hm : gmayB l = true) : (valS (vN s) l).2 = if (bfind l s).isSome then 0 else 93 := by
  rw [vN_val hn hu hm]
  cases bfind l s <;> rfl
end Go.Proofs.YtlhobpknflobgaaGreatDoor
namespace Go.Proofs.YtlhobpknflobgaaGreatDoor
open Go.RowKit

/-- A guard's tests, the last one ahead. -/
def turnT (g : Tr) : Tr := .mk 4 0 ⟨#[]⟩ ⟨#[]⟩ g.l.reverse
theorem gd_parts {g : Tr} (h : gdB g = true) : fitsB g = true ∧ g.k = 4 ∧ g.l.all tstB = true := by
  unfold gdB gdI at h
  simp only [Bool.and_eq_true, beq_iff_eq] at h
  exact ⟨h.1, h.2.1, h.2.2.2⟩
theorem test_kid {g y : Tr} {l : List Bd} (hg : gdB g = true) (hm : gmayB l = true) (hy : y ∈ g.l) : testS y l = holdS l y := by
  obtain ⟨h1, _, h3⟩ := gd_parts hg
  unfold testS tstC
  rw [fits_kid h1 hy, List.all_eq_true.1 h3 y hy, hm]
  rfl
theorem holds_all {g : Tr} {l : List Bd} (hg : gdB g = true) (hm : gmayB l = true) : hldS g l = g.l.all (holdS l) := by
  unfold hldS
  rw [hg, hm]
  rfl
theorem turn_gd {g : Tr} (hg : gdB g = true) : gdB (turnT g) = true := by
  obtain ⟨h1, _, h3⟩ := gd_parts hg
  unfold gdB gdI
  have e1 : fitsB (turnT g) = true := by
    rw [fits_iff] at h1 ⊢
    have h3 := nn_eq g
    have h4 := dd_eq g
    have h5 : (turnT g).nn = Tr.nn.nnl g.l.reverse + 1 := nn_eq _
    have h6 : (turnT g).dd = Tr.dd.ddl g.l.reverse + 1 := dd_eq _
    rw [nnl_reverse] at h5
    rw [ddl_reverse] at h6
    omega
  have e2 : bareB (turnT g) false false false true = true := by
    show ((false || ((0 : Int) == 0)) && (false || emp ⟨#[]⟩) && (false || emp ⟨#[]⟩) && (true || _)) = true
    rw [show emp ⟨#[]⟩ = true by kernel_rfl]
    rfl
  have e3 : (turnT g).l.all tstB = true := by
    show g.l.reverse.all tstB = true
    rw [List.all_reverse]; exact h3
  rw [e1, e2, e3]
  rfl
theorem turn_all {g : Tr} {l : List Bd} (hg : gdB g = true) (hm : gmayB l = true) : hldS (turnT g) l = g.l.all (holdS l) := by
  rw [holds_all (turn_gd hg) hm]
  show g.l.reverse.all (holdS l) = _
  rw [List.all_reverse]
theorem gval_skip (d : Bd) (l : List Bd) (x : Tr) : (∀ z ∈ x.pre, z.k = 5 → undB z.s = false → z.s ≠ d.s) → x.gval (d :: l) = x.gval l := by
  induction x using Tr.ind with
  | h x ih =>
    intro h
    rw [gval_eq, gval_eq]
    by_cases h5 : x.k = 5
    · rw [if_pos h5, if_pos h5]
      unfold gvarS
      cases hu : undB x.s
      · have hne := h x (by rw [pre_eq]; simp) h5 hu
        rw [if_neg (by simp), if_neg (by simp)]
        unfold bfind
        rw [List.find?_cons]
        have : (d.s.toList == x.s.toList) = false := by
          cases hc : (d.s.toList == x.s.toList)
          · rfl
          · exact absurd (bs_eq hc).symm hne
        rw [this]
      · rfl
    · rw [if_neg h5, if_neg h5]
      have key : ∀ m : List Tr, (∀ y ∈ m, y ∈ x.l) → Tr.gval.vals m (d :: l) = Tr.gval.vals m l := by
        intro m
        induction m with
        | nil => exact fun _ => rfl
        | cons y r ihr =>
          intro hr
          have hy := ih y (hr y (by simp)) (fun z hz => h z (pre_kid (hr y (by simp)) hz))
          rw [Tr.gval.vals, Tr.gval.vals, hy, ihr fun u hu => hr u (List.mem_cons_of_mem _ hu)]
      rw [key x.l fun _ h => h]
theorem hold_skip {d : Bd} {l : List Bd} {x : Tr} (h : ∀ z ∈ x.pre, z.k = 5 → undB z.s = false → z.s ≠ d.s) : holdS (d :: l) x = holdS l x := by
  have hk : ∀ i, (x.l.getD i zeroT).gval (d :: l) = (x.l.getD i zeroT).gval l := by
    intro i
    by_cases hi : i < x.l.length
    · have e : x.l.getD i zeroT = x.l[i] := by simp [hi]
      rw [e]
      exact gval_skip d l _ fun z hz => h z (pre_kid (List.getElem_mem hi) hz)
    · have e : x.l.getD i zeroT = zeroT := by simp [hi]
      rw [e]
      refine gval_skip d l _ fun z hz h5 => ?_
      have : z = zeroT := by simpa [Tr.pre, Tr.pre.prel, zeroT] using hz
      rw [this] at h5
      exact absurd h5 (by decide)
  unfold holdS hold1 hold2
  rw [hk 0, hk 1]
theorem more_all {g : Tr} {l : List Bd} {s : ByteArray} {t : Tr} (hg : gdB g = true) (hm : gmayB l = true) (hc : chkT t = 0) (hh : hasB (varsT g) s = false) : hldS g (⟨s, t⟩ :: l) = g.l.all (holdS l) := by
  have hm2 : gmayB (⟨s, t⟩ :: l) = true := by
    rw [gmay_all]
    intro b hb
    rcases List.mem_cons.1 hb with rfl | hb
    · exact hc
    · exact gmay_all.1 hm b hb
  rw [holds_all hg hm2]
  have hoff : ∀ z ∈ g.pre, z.k = 5 → undB z.s = false → z.s ≠ s := by
    intro z hz h5 hu he
    have : hasB (varsT g) s = true := by
      rw [hasB_mem]
      unfold varsT
      rw [if_pos (gd_parts hg).1]
      exact vfold_mem.2 (.inr ⟨z, hz, h5, hu, he⟩)
    rw [hh] at this
    cases this
  have key : ∀ m : List Tr, (∀ y ∈ m, y ∈ g.l) → m.all (holdS (⟨s, t⟩ :: l)) = m.all (holdS l) := by
    intro m
    induction m with
    | nil => exact fun _ => rfl
    | cons y r ihr =>
      intro hr
      rw [List.all_cons, List.all_cons, ihr fun u hu => hr u (List.mem_cons_of_mem _ hu), hold_skip (d := ⟨s, t⟩) fun z hz => hoff z (pre_kid (hr y (by simp)) hz)]
  exact key g.l fun _ h => h
end Go.Proofs.YtlhobpknflobgaaGreatDoor
