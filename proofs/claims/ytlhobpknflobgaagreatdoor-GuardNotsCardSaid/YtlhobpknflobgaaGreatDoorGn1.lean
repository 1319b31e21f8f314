/-
  Comparisons of two values: the plain law.
-/
import Derived.Test.YtlhobpknflobgaaGreatDoorGx2
namespace Go.Proofs.YtlhobpknflobgaaGreatDoor
open Go.RowKit

theorem dp_mono (x : Tr) : ∀ m m' : Int, 1 ≤ m → m ≤ m' → x.dp m ≤ x.dp m' := by
  induction x using Tr.ind with
  | h x ih =>
    intro m m' hm hmm
    have hb := dp_bound x m' (by omega)
    cases x with
    | mk k n s t l =>
      by_cases h1 : 1 < m
      · rw [Tr.dp, Tr.dp, if_pos h1, if_pos (by omega)]
        have key : ∀ (r : List Tr), (∀ y ∈ r, y ∈ l) → ∀ a a' : Int, a ≤ a' → Tr.dp.dpl r m a ≤ Tr.dp.dpl r m' a' := by
          intro r
          induction r with
          | nil => exact fun _ a a' h => h
          | cons y r ihr =>
            intro hr a a' h
            rw [Tr.dp.dpl, Tr.dp.dpl]
            have := ih y (hr y (by simp)) (m - 1) (m' - 1) (by omega) (by omega)
            exact ihr (fun z hz => hr z (List.mem_cons_of_mem _ hz)) _ _ (by omega)
        exact key l (fun _ h => h) 1 1 (Int.le_refl _)
      · rw [Tr.dp, if_neg h1]
        exact hb.1
def nodeOp (s : ByteArray) (a b : Tr) : Tr := .mk 11 0 s ⟨#[]⟩ [a, b]
theorem fits_op {s : ByteArray} {a b : Tr} (h1 : a.sz 4097 + b.sz 4097 + 2 ≤ 4096) (h2 : a.dp 65 + 2 ≤ 64) (h3 : b.dp 65 + 2 ≤ 64) : fitsB (nodeOp s a b) = true ∧ fitsB a = true ∧ fitsB b = true := by
  have ba := sz_bound a 4097 (by omega)
  have bb := sz_bound b 4097 (by omega)
  have na := sz_nn a 4097 (by omega) (by omega)
  have nb := sz_nn b 4097 (by omega) (by omega)
  have nn : (nodeOp s a b).nn = a.nn + b.nn + 1 := by rw [nn_eq]; show Tr.nn.nnl [a, b] + 1 = _; simp only [Tr.nn.nnl]; omega
  have hs := sz_of (nodeOp s a b) 4097 (by rw [nn]; omega)
  have da := dp_mono a 64 65 (by omega) (by omega)
  have db := dp_mono b 64 65 (by omega) (by omega)
  have hd : (nodeOp s a b).dp 65 = max (max 1 (1 + a.dp 64)) (1 + b.dp 64) := rfl
  unfold fitsB
  refine ⟨?_, ?_, ?_⟩
  · rw [hs, nn, hd]
    simp only [Bool.and_eq_true, decide_eq_true_eq]
    omega
  · simp only [Bool.and_eq_true, decide_eq_true_eq]; omega
  · simp only [Bool.and_eq_true, decide_eq_true_eq]; omega
theorem test_op {s : ByteArray} {a b : Tr} {l : List Bd} (hf : fitsB (nodeOp s a b) = true) (hs : icOk s = true) : testS (nodeOp s a b) l = ((a.grd && b.grd) && (gmayB l && hold2 s l a b)) := by
  have h1 : tstC (nodeOp s a b) = (a.grd && b.grd) := by
    unfold tstC
    rw [hf]
    have : tstB (nodeOp s a b) = (icOk s && (a.grd && b.grd)) := by
      unfold tstB
      have hb : bareB (nodeOp s a b) false true false true = true := by
        show ((false || ((0 : Int) == 0)) && (true || emp s) && (false || emp ⟨#[]⟩) && (true || _)) = true
        rw [show emp ⟨#[]⟩ = true by kernel_rfl]
        rfl
      rw [hb]
      show ((true && (true && (icOk s && (true && [a, b].all Tr.grd)))) || (false && _)) = _
      simp
    rw [this, hs]
    simp
  have h2 : holdS l (nodeOp s a b) = hold2 s l a b := by
    unfold holdS
    rw [if_neg (by show ¬ (11 : Int) = 12; omega)]
    rfl
  unfold testS
  rw [h1, h2]
theorem val_zero {x : Tr} {l : List Bd} (h : (valS x l).2 = 0) : x.grd = true ∧ gmayB l = true ∧ ∃ y, x.gval l = some y := by
  unfold valS at h
  cases hg : grdB x && gmayB l
  · rw [hg] at h
    simp at h
  · rw [hg, if_pos rfl] at h
    simp only [Bool.and_eq_true] at hg
    have h2 : x.grd = true := by
      have := hg.1
      unfold grdB at this
      simp only [Bool.and_eq_true] at this
      exact this.2
    refine ⟨h2, hg.2, ?_⟩
    cases hv : x.gval l with
    | none => rw [hv] at h; simp at h
    | some y => exact ⟨y, rfl⟩
theorem val_not {x : Tr} {l : List Bd} (hf : fitsB x = true) (h : (valS x l).2 ≠ 0) : x.grd = false ∨ gmayB l = false ∨ x.gval l = none := by
  cases h1 : x.grd
  · exact .inl rfl
  cases h2 : gmayB l
  · exact .inr (.inl rfl)
  refine .inr (.inr ?_)
  cases hv : x.gval l with
  | none => rfl
  | some y =>
    refine absurd ?_ h
    unfold valS grdB
    rw [hf, h1, h2, hv]
    rfl
/-- Two comparisons, one the other way about. -/
theorem nots_both {s1 s2 : ByteArray} {a b : Tr} {l : List Bd} (h1 : a.sz 4097 + b.sz 4097 + 2 ≤ 4096) (h2 : a.dp 65 + 2 ≤ 64) (h3 : b.dp 65 + 2 ≤ 64) (ha : (valS a l).2 = 0) (hb : (valS b l).2 = 0)
    (o1 : icOk s1 = true) (o2 : icOk s2 = true) (hc : ∀ c, icB s1 c = !icB s2 c) : testS (nodeOp s1 a b) l = !testS (nodeOp s2 a b) l := by
  obtain ⟨ga, gm, ya, va⟩ := val_zero ha
  obtain ⟨gb, _, yb, vb⟩ := val_zero hb
  rw [test_op (fits_op h1 h2 h3).1 o1, test_op (fits_op h1 h2 h3).1 o2, ga, gb, gm]
  have e : ∀ s, hold2 s l a b = icB s (cmpT ya yb) := fun s => by unfold hold2; rw [va]; simp only [vb]
  rw [e, e, hc]
  simp
theorem nots_none {s : ByteArray} {a b : Tr} {l : List Bd} (h1 : a.sz 4097 + b.sz 4097 + 2 ≤ 4096) (h2 : a.dp 65 + 2 ≤ 64) (h3 : b.dp 65 + 2 ≤ 64) (h : (valS a l).2 ≠ 0 ∨ (valS b l).2 ≠ 0)
    (o : icOk s = true) : testS (nodeOp s a b) l = false := by
  obtain ⟨f, fa, fb⟩ := fits_op (s := s) h1 h2 h3
  rw [test_op f o]
  rcases h with h | h
  · rcases val_not fa h with h | h | h
    · rw [h]; rfl
    · rw [h]; simp
    · have : hold2 s l a b = false := by unfold hold2; rw [h]
      rw [this]; simp
  · rcases val_not fb h with h | h | h
    · rw [h]; simp
    · rw [h]; simp
    · have : hold2 s l a b = false := by
        unfold hold2
        rw [h]
        cases a.gval l <;> rfl
      rw [this]; simp
theorem ic_pair1 (c : Int) : icB ⟨#[61, 58, 61]⟩ c = !icB ⟨#[61, 47, 61]⟩ c := by
  have h1 : icR ⟨#[61, 58, 61]⟩ = some (false, true, false) := by kernel_rfl
  have h2 : icR ⟨#[61, 47, 61]⟩ = some (true, false, true) := by kernel_rfl
  unfold icB
  rw [h1, h2]
  unfold icPick
  rcases Int.lt_trichotomy c 0 with h | h | h <;> simp [h] <;> omega
theorem ic_pair2 (c : Int) : icB ⟨#[60]⟩ c = !icB ⟨#[62, 61]⟩ c := by
  have h1 : icR ⟨#[60]⟩ = some (true, false, false) := by kernel_rfl
  have h2 : icR ⟨#[62, 61]⟩ = some (false, true, true) := by kernel_rfl
  unfold icB
  rw [h1, h2]
  unfold icPick
  rcases Int.lt_trichotomy c 0 with h | h | h <;> simp [h] <;> omega
theorem ic_pair3 (c : Int) : icB ⟨#[62]⟩ c = !icB ⟨#[61, 60]⟩ c := by
  have h1 : icR ⟨#[62]⟩ = some (false, false, true) := by kernel_rfl
  have h2 : icR ⟨#[61, 60]⟩ = some (true, true, false) := by kernel_rfl
  unfold icB
  rw [h1, h2]
  unfold icPick
  rcases Int.lt_trichotomy c 0 with h | h | h <;> simp [h] <;> omega
end Go.Proofs.YtlhobpknflobgaaGreatDoor
