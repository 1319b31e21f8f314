/-
  The exported rules of ast, in plain words: which follows from which. Names no function of the program. No condition.
-/
import Derived.Test.YtdjafnjmkkagjaaGreatDoorOb5
namespace Go.Proofs.YtdjafnjmkkagjaaGreatDoor.Oa.P1
open Go.RowKit Sx B3 B4 B5
set_option maxRecDepth 100000

mutual
/-- How many nodes; how deep. -/
def nn : Tr → Int
  | .mk _ _ _ _ l => 1 + nnl l
def nnl : List Tr → Int
  | [] => 0
  | x :: r => nn x + nnl r
end
mutual
def hh : Tr → Int
  | .mk _ _ _ _ l => 1 + hhl l
def hhl : List Tr → Int
  | [] => 0
  | x :: r => max (hh x) (hhl r)
end
theorem nn_eq (x : Tr) : nn x = 1 + nnl x.l := by cases x; rw [nn]; rfl
theorem hh_eq (x : Tr) : hh x = 1 + hhl x.l := by cases x; rw [hh]; rfl
theorem nn_pos (x : Tr) : 1 ≤ nn x ∧ 1 ≤ hh x := by
  induction x using Tr.ind with
  | h x ih =>
    have key : ∀ l : List Tr, (∀ y ∈ l, 1 ≤ nn y ∧ 1 ≤ hh y) → 0 ≤ nnl l ∧ 0 ≤ hhl l := by
      intro l
      induction l with
      | nil => intro _; simp [nnl, hhl]
      | cons y r ihr =>
        intro h
        have h1 := h y (by simp)
        have h2 := ihr fun z hz => h z (List.mem_cons_of_mem _ hz)
        rw [nnl, hhl]
        omega
    have := key x.l ih
    rw [nn_eq, hh_eq]
    omega
theorem nnl_pos (l : List Tr) : 0 ≤ nnl l ∧ 0 ≤ hhl l := by
  induction l with
  | nil => simp [nnl, hhl]
  | cons y r ih =>
    have h1 := nn_pos y
    rw [nnl, hhl]
    omega
theorem sz_nn (x : Tr) : ∀ m : Int, 1 ≤ m → x.sz m = min (nn x) m := by
  induction x using Tr.ind with
  | h x ih =>
    intro m hm
    cases x with
    | mk k n s t l =>
      have key : ∀ (r : List Tr), (∀ y ∈ r, y ∈ l) → ∀ a : Int, 1 ≤ a → a ≤ m → Tr.sz.szl r m a = min (a + nnl r) m := by
        intro r
        induction r with
        | nil => intro _ a h1 h2; rw [Tr.sz.szl, nnl]; omega
        | cons y r ihr =>
          intro hr a h1 h2
          have hy := nn_pos y
          have hr0 := nnl_pos r
          rw [Tr.sz.szl, nnl]
          split
          · have e := ih y (hr y (by simp)) (m - a) (by omega)
            rw [ihr (fun z hz => hr z (List.mem_cons_of_mem _ hz)) _ (by omega) (by omega), e]
            omega
          · omega
      rw [nn]
      exact key l (fun _ h => h) 1 (Int.le_refl _) hm
theorem dp_hh (x : Tr) : ∀ m : Int, 1 ≤ m → x.dp m = min (hh x) m := by
  induction x using Tr.ind with
  | h x ih =>
    intro m hm
    cases x with
    | mk k n s t l =>
      have hl0 := nnl_pos l
      rw [Tr.dp, hh]
      split
      · have key : ∀ (r : List Tr), (∀ y ∈ r, y ∈ l) → ∀ a : Int, 1 ≤ a → a ≤ m → Tr.dp.dpl r m a = max a (min (1 + hhl r) m) := by
          intro r
          induction r with
          | nil => intro _ a h1 h2; rw [Tr.dp.dpl, hhl]; omega
          | cons y r ihr =>
            intro hr a h1 h2
            have hy := nn_pos y
            have hr0 := nnl_pos r
            have e := ih y (hr y (by simp)) (m - 1) (by omega)
            rw [Tr.dp.dpl, hhl, ihr (fun z hz => hr z (List.mem_cons_of_mem _ hz)) _ (by omega) (by omega), e]
            omega
        rw [key l (fun _ h => h) 1 (Int.le_refl _) hm]
        omega
      · omega
theorem nnl_mem {y : Tr} : ∀ {l : List Tr}, y ∈ l → nn y ≤ nnl l ∧ hh y ≤ hhl l
  | z :: r, h => by
    have h0 := nnl_pos r
    have h1 := nn_pos z
    rw [nnl, hhl]
    rcases List.mem_cons.1 h with rfl | h
    · omega
    · have := nnl_mem h; omega
theorem kid_lt {x y : Tr} (h : y ∈ x.l) : nn y < nn x ∧ hh y < hh x := by
  have := nnl_mem h
  rw [nn_eq x, hh_eq x]
  omega
theorem fits_iff (x : Tr) : fitsB x = true ↔ nn x ≤ 4096 ∧ hh x ≤ 64 := by
  unfold fitsB
  rw [sz_nn x 4097 (by omega), dp_hh x 65 (by omega), Bool.and_eq_true, decide_eq_true_iff, decide_eq_true_iff]
  omega
theorem fits_kid {x y : Tr} (h : y ∈ x.l) (hf : fitsB x = true) : fitsB y = true := by
  rw [fits_iff] at hf ⊢
  have := kid_lt h
  omega

theorem patK_mono {k : Int} {x : Tr} {a b : Bool} (h : a = true → b = true) (q : patK k x a = true) : patK k x b = true := by
  cases b with
  | false =>
    cases a with
    | false => exact q
    | true => cases h rfl
  | true =>
    cases a with
    | true => exact q
    | false =>
      unfold patK at q ⊢
      split at q <;> simp_all
theorem exV_pat {k : Int} {x : Tr} {b : Bool} {E A : List Bool} {C : Int → List Bool} (h : patK k x b = true) : exV k x E A C = patK k x (E.all id) := by
  unfold exV
  split <;> first | rfl | (exfalso; simp [patK] at h)
theorem gddK_pat {k : Int} {x : Tr} {a b : Bool} (h : patK k x a = true) : gddK k x b = patK k x b := by
  unfold gddK
  split
  · simp [patK] at h
  · rfl
theorem all_mono {l : List Tr} {f g : Tr → Bool} (h : ∀ y, y ∈ l → f y = true → g y = true) (q : l.all f = true) : l.all g = true := by
  rw [List.all_eq_true] at q ⊢
  exact fun y hy => h y hy (q y hy)
theorem pat_ex (x : Tr) : pat x = true → ex x = true := by
  induction x using Tr.ind with
  | h x ih =>
    intro h
    rw [B3.pat_eq] at h
    rw [ex_eq, exV_pat h]
    refine patK_mono (fun q => ?_) h
    rw [List.all_map]
    exact all_mono ih q
theorem pat_gdd (x : Tr) : pat x = true → gdd x = true := by
  induction x using Tr.ind with
  | h x ih =>
    intro h
    rw [B3.pat_eq] at h
    rw [gdd_eq, gddK_pat h]
    exact patK_mono (fun q => all_mono ih q) h
theorem gdd_ex (x : Tr) : gdd x = true → ex x = true := by
  induction x using Tr.ind with
  | h x ih =>
    intro h
    rw [gdd_eq] at h
    rw [ex_eq]
    have hk : x.l.all gdd = true → (x.l.map ex).all id = true := fun q => by
      rw [List.all_map]
      exact all_mono ih q
    by_cases hp : patK x.k x (x.l.all gdd) = true
    · rw [exV_pat hp]
      exact patK_mono hk hp
    · by_cases h11 : x.k = 11
      · rw [h11] at h ⊢
        unfold gddK at h
        unfold exV ariN ariW
        simp only [isIn]
        by_cases a1 : nats x.s = [43]
        · simp_all
        · by_cases a2 : nats x.s = [45]
          · simp_all
          · by_cases a3 : nats x.s = [42]
            · simp_all
            · simp_all
      · exfalso
        apply hp
        have e : gddK x.k x (x.l.all gdd) = patK x.k x (x.l.all gdd) := by
          unfold gddK
          split
          · contradiction
          · rfl
        rw [← e]
        exact h
theorem gd_kid {x y : Tr} (h : gd x = true) (hy : y ∈ x.l) : tst y = true := by
  unfold gd at h
  simp only [Bool.and_eq_true] at h
  exact List.all_eq_true.1 h.2.2.2.2 y hy
theorem chk_mod {x m : Tr} (h : chkB x = true) (hm : m ∈ x.l) : modB m = true := by
  unfold chkB at h
  simp only [Bool.and_eq_true] at h
  exact List.all_eq_true.1 h.2.2.2.2.2 m hm
theorem chk_fits {x : Tr} (h : chkB x = true) : fitsB x = true := by
  unfold chkB at h
  simp only [Bool.and_eq_true] at h
  exact h.1
theorem mod_fn {m f : Tr} (h : modB m = true) (hf : f ∈ m.l) : fnB f = true := by
  unfold modB at h
  simp only [Bool.and_eq_true] at h
  exact List.all_eq_true.1 h.2.2.2.2 f hf
theorem fn_num {f : Tr} (h : fnB f = true) : 0 ≤ f.n ∧ f.n ≤ 8 := by
  unfold fnB at h
  simp only [Bool.and_eq_true, decide_eq_true_iff] at h
  exact ⟨h.2.2.2.1, h.2.2.2.2.1⟩
theorem fn_cl {f c : Tr} (h : fnB f = true) (hc : c ∈ f.l) : cl f.n c = true := by
  unfold fnB at h
  simp only [Bool.and_eq_true] at h
  exact List.all_eq_true.1 h.2.2.2.2.2.2 c hc
theorem cl_num {c : Tr} {m : Int} (h : cl m c = true) : c.n = m := by
  rw [cl_eq] at h
  unfold clV at h
  simp only [Bool.and_eq_true, decide_eq_true_iff] at h
  exact h.2.2.2.1
theorem cl_not {c : Tr} {m m' : Int} (h : cl m c = true) (hne : m ≠ m') : cl m' c = false := by
  cases q : cl m' c with
  | false => rfl
  | true => exact absurd ((cl_num h).symm.trans (cl_num q)) hne
end Go.Proofs.YtdjafnjmkkagjaaGreatDoor.Oa.P1
