/-
  How many nodes a tree has, how deep it is; its parts have fewer. Names no function of the program. No condition.
-/
import Derived.Test.YtdjafnjmkkagjaaGreatDoorSa1
namespace Go.Proofs.YtdjafnjmkkagjaaGreatDoor.Oa.P1
open Go.RowKit
set_option maxRecDepth 100000

mutual
/-- How many nodes; how deep. -/
def nn : Tr → Int
  | .mk _ _ _ _ l => 1 + nnl l
def nnl : List Tr → Int
  | [] => 0
  | x :: r => nn x + nnl r
end
mutual
def hh : Tr → Int
  | .mk _ _ _ _ l => 1 + hhl l
def hhl : List Tr → Int
  | [] => 0
  | x :: r => max (hh x) (hhl r)
end
theorem nn_eq (x : Tr) : nn x = 1 + nnl x.l := by cases x; rw [nn]; rfl
theorem hh_eq (x : Tr) : hh x = 1 + hhl x.l := by cases x; rw [hh]; rfl
theorem nn_pos (x : Tr) : 1 ≤ nn x ∧ 1 ≤ hh x := by
  induction x using Tr.ind with
  | h x ih =>
    have key : ∀ l : List Tr, (∀ y ∈ l, 1 ≤ nn y ∧ 1 ≤ hh y) → 0 ≤ nnl l ∧ 0 ≤ hhl l := by
      intro l
      induction l with
      | nil => intro _; simp [nnl, hhl]
      | cons y r ihr =>
        intro h
        have h1 := h y (by simp)
        have h2 := ihr fun z hz => h z (List.mem_cons_of_mem _ hz)
        rw [nnl, hhl]
        omega
    have := key x.l ih
    rw [nn_eq, hh_eq]
    omega
theorem nnl_pos (l : List Tr) : 0 ≤ nnl l ∧ 0 ≤ hhl l := by
  induction l with
  | nil => simp [nnl, hhl]
  | cons y r ih =>
    have h1 := nn_pos y
    rw [nnl, hhl]
    omega
theorem sz_nn (x : Tr) : ∀ m : Int, 1 ≤ m → x.sz m = min (nn x) m := by
  induction x using Tr.ind with
  | h x ih =>
    intro m hm
    cases x with
    | mk k n s t l =>
      have key : ∀ (r : List Tr), (∀ y ∈ r, y ∈ l) → ∀ a : Int, 1 ≤ a → a ≤ m → Tr.sz.szl r m a = min (a + nnl r) m := by
        intro r
        induction r with
        | nil => intro _ a h1 h2; rw [Tr.sz.szl, nnl]; omega
        | cons y r ihr =>
          intro hr a h1 h2
          have hy := nn_pos y
          have hr0 := nnl_pos r
          rw [Tr.sz.szl, nnl]
          split
          · have e := ih y (hr y (by simp)) (m - a) (by omega)
            rw [ihr (fun z hz => hr z (List.mem_cons_of_mem _ hz)) _ (by omega) (by omega), e]
            omega
          · omega
      rw [nn]
      exact key l (fun _ h => h) 1 (Int.le_refl _) hm
theorem dp_hh (x : Tr) : ∀ m : Int, 1 ≤ m → x.dp m = min (hh x) m := by
  induction x using Tr.ind with
  | h x ih =>
    intro m hm
    cases x with
    | mk k n s t l =>
      have hl0 := nnl_pos l
      rw [Tr.dp, hh]
      split
      · have key : ∀ (r : List Tr), (∀ y ∈ r, y ∈ l) → ∀ a : Int, 1 ≤ a → a ≤ m → Tr.dp.dpl r m a = max a (min (1 + hhl r) m) := by
          intro r
          induction r with
          | nil => intro _ a h1 h2; rw [Tr.dp.dpl, hhl]; omega
          | cons y r ihr =>
            intro hr a h1 h2
            have hy := nn_pos y
            have hr0 := nnl_pos r
            have e := ih y (hr y (by simp)) (m - 1) (by omega)
            rw [Tr.dp.dpl, hhl, ihr (fun z hz => hr z (List.mem_cons_of_mem _ hz)) _ (by omega) (by omega), e]
            omega
        rw [key l (fun _ h => h) 1 (Int.le_refl _) hm]
        omega
      · omega
theorem nnl_mem {y : Tr} : ∀ {l : List Tr}, y ∈ l → nn y ≤ nnl l ∧ hh y ≤ hhl l
  | z :: r, h => by
    have h0 := nnl_pos r
    have h1 := nn_pos z
    rw [nnl, hhl]
    rcases List.mem_cons.1 h with rfl | h
    · omega
    · have := nnl_mem h; omega
theorem kid_lt {x y : Tr} (h : y ∈ x.l) : nn y < nn x ∧ hh y < hh x := by
  have := nnl_mem h
  rw [nn_eq x, hh_eq x]
  omega
theorem fits_iff (x : Tr) : fitsB x = true ↔ nn x ≤ 4096 ∧ hh x ≤ 64 := by
  unfold fitsB
  rw [sz_nn x 4097 (by omega), dp_hh x 65 (by omega), Bool.and_eq_true, decide_eq_true_iff, decide_eq_true_iff]
  omega
theorem fits_kid {x y : Tr} (h : y ∈ x.l) (hf : fitsB x = true) : fitsB y = true := by
  rw [fits_iff] at hf ⊢
  have := kid_lt h
  omega

end Go.Proofs.YtdjafnjmkkagjaaGreatDoor.Oa.P1
