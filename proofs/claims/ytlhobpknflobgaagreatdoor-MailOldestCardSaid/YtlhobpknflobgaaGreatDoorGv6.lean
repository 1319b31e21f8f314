/-
  What a guard expression tells: the plain law.
-/
import Derived.Test.YtlhobpknflobgaaGreatDoorGv5
import Derived.Test.YtlhobpknflobgaaGreatDoorGd5
import Derived.Test.YtlhobpknflobgaaGreatDoorGm0
namespace Go.Proofs.YtlhobpknflobgaaGreatDoor
open Go.RowKit

def okT (q : Tr × Int) : Option Tr := if q.2 = 0 then some q.1 else none
def gdo (x a b : Tr) : Option Tr := if a.k = 0 ∧ b.k = 0 then (if mayI (doS x.s a.n b.n) = true then some (.mk 0 (doS x.s a.n b.n) ⟨#[]⟩ ⟨#[]⟩ []) else none) else none
/-- What is made of the parts' values. -/
def gput (x : Tr) (r : List Tr) : Option Tr :=
  if x.k = 10 then okT (madeS 5 r) else if x.k = 9 then okT (madeS 7 r) else gdo x (r.getD 0 zeroT) (r.getD 1 zeroT)
/-- What a guard expression tells under names; none: nothing. -/
def Tr.gval : Tr → List Bd → Option Tr
  | .mk k n s t l, b => if k = 5 then gvarS b s else if k = 6 then some (.mk 0 n ⟨#[]⟩ ⟨#[]⟩ []) else if k = 7 then some (.mk 1 0 s ⟨#[]⟩ []) else if k = 8 then some (.mk 6 0 ⟨#[]⟩ ⟨#[]⟩ []) else (vals l b).bind fun r => gput (.mk k n s t l) r
where vals : List Tr → List Bd → Option (List Tr)
  | [], _ => some []
  | x :: r, b => match x.gval b with
    | some y => (vals r b).map (y :: ·)
    | none => none
theorem gval_eq (x : Tr) (b : List Bd) : x.gval b = if x.k = 5 then gvarS b x.s else if x.k = 6 then some (.mk 0 x.n ⟨#[]⟩ ⟨#[]⟩ []) else if x.k = 7 then some (.mk 1 0 x.s ⟨#[]⟩ []) else if x.k = 8 then some (.mk 6 0 ⟨#[]⟩ ⟨#[]⟩ []) else (Tr.gval.vals x.l b).bind fun r => gput x r := by cases x; rfl
theorem vals_take {l : List Tr} {k : Nat} {b : List Bd} (h1 : k < l.length) : Tr.gval.vals (l.drop k) b = match l[k].gval b with
    | some y => (Tr.gval.vals (l.drop (k + 1)) b).map (y :: ·)
    | none => none := by rw [List.drop_eq_getElem_cons h1, Tr.gval.vals]
/-- The parts behind k, with what came of those ahead. -/
def GSt (x : Tr) (l : List Bd) (k : Nat) (o : List Tr) : Prop := Tr.gval.vals x.l l = (Tr.gval.vals (x.l.drop k) l).map (o ++ ·)
theorem gst_start (x : Tr) (l : List Bd) : GSt x l 0 [] := by unfold GSt; simp
theorem gst_next {p : Tr} {l : List Bd} {k : Nat} {o : List Tr} {y : Tr} (h : GSt p l k o) (hk : k < p.l.length) (hy : p.l[k].gval l = some y) : GSt p l (k + 1) (o ++ [y]) := by
  unfold GSt at h ⊢
  rw [h, vals_take hk, hy]
  cases Tr.gval.vals (p.l.drop (k + 1)) l with
  | none => rfl
  | some r => simp
theorem gst_none {p : Tr} {l : List Bd} {k : Nat} {o : List Tr} (h : GSt p l k o) (hk : k < p.l.length) (hy : p.l[k].gval l = none) : Tr.gval.vals p.l l = none := by
  unfold GSt at h
  rw [h, vals_take hk, hy]
  rfl
theorem gst_end {p : Tr} {l : List Bd} {k : Nat} {o : List Tr} (h : GSt p l k o) (hk : p.l.length ≤ k) : Tr.gval.vals p.l l = some o := by
  unfold GSt at h
  rw [h, List.drop_eq_nil_of_le hk]
  simp [Tr.gval.vals]
theorem vals_get : ∀ {X : List Tr} {b : List Bd} {r : List Tr}, Tr.gval.vals X b = some r → r.length = X.length ∧ ∀ y ∈ r, ∃ x ∈ X, x.gval b = some y
  | [], b, r, h => by
    simp only [Tr.gval.vals, Option.some.injEq] at h
    subst h
    exact ⟨rfl, fun y hy => by simp at hy⟩
  | x :: X, b, r, h => by
    rw [Tr.gval.vals] at h
    cases hx : x.gval b with
    | none => rw [hx] at h; cases h
    | some z =>
      rw [hx] at h
      cases hv : Tr.gval.vals X b with
      | none => simp only [hv] at h; cases h
      | some r' =>
        simp only [hv, Option.map_some, Option.some.injEq] at h
        subst h
        obtain ⟨h1, h2⟩ := vals_get hv
        refine ⟨by simp [h1], fun y hy => ?_⟩
        rcases List.mem_cons.1 hy with rfl | hy
        · exact ⟨x, by simp, hx⟩
        · obtain ⟨x', hx', h'⟩ := h2 y hy
          exact ⟨x', by simp [hx'], h'⟩
theorem gmay_mem {b : List Bd} (h : gmayB b = true) : ∀ d ∈ b, chkT d.t = 0 := by
  intro d hd
  unfold gmayB at h
  have h2 : b.any badT = false := by simpa using h
  have h3 := List.any_eq_false.1 h2 d hd
  unfold badT at h3
  simpa using h3
theorem one_int {x : Tr} (h : oneB x = true) (hk : x.k = 0) : mayI x.n = true := by
  unfold oneB at h
  rw [if_pos hk] at h
  exact (Bool.and_eq_true _ _ ▸ h : _ ∧ _).2
theorem grd_kinds {x : Tr} (h : x.grd = true) : (x.k = 5 ∨ x.k = 6 ∨ x.k = 7 ∨ x.k = 8) ∧ leafB x = true ∨ (x.k = 10 ∨ (x.k = 9 ∧ x.l.length = 2) ∨ (x.k = 11 ∧ arS x.s = true ∧ x.l.length = 2)) ∧ x.l.all Tr.grd = true := by
  rw [grd_eq] at h
  rcases Bool.or_eq_true _ _ ▸ h with h | h
  · left
    refine ⟨?_, h⟩
    unfold leafB at h
    by_cases h5 : x.k = 5
    · exact .inl h5
    by_cases h6 : x.k = 6
    · exact .inr (.inl h6)
    by_cases h7 : x.k = 7
    · exact .inr (.inr (.inl h7))
    by_cases h8 : x.k = 8
    · exact .inr (.inr (.inr h8))
    rw [if_neg h5, if_neg h6, if_neg h7, if_neg h8] at h
    cases h
  · right
    rw [Bool.and_eq_true, grdl_all] at h
    refine ⟨?_, h.2⟩
    have h1 := h.1
    unfold grdO at h1
    simp only [Bool.or_eq_true, Bool.and_eq_true, beq_iff_eq] at h1
    rcases h1 with ⟨h1 | ⟨h1, h2⟩, _⟩ | ⟨h1, _, h2, h3⟩
    · exact .inl h1
    · exact .inr (.inl ⟨h1, by omega⟩)
    · exact .inr (.inr ⟨h1, h2, by omega⟩)
theorem leaf_int {x : Tr} (h : leafB x = true) (hk : x.k = 6) : mayI x.n = true := by
  unfold leafB at h
  rw [if_neg (by omega), if_pos hk] at h
  exact (Bool.and_eq_true _ _ ▸ h : _ ∧ _).2
theorem okT_kind {k : Int} {l : List Tr} {y : Tr} (h : okT (madeS k l) = some y) : y.k = k := by
  unfold okT madeS at h
  cases hm : madeSum l 1 with
  | none => rw [hm] at h; exact absurd h (by simp)
  | some n =>
    rw [hm] at h
    by_cases hn : 256 < n
    · simp only [if_pos hn] at h
      exact absurd h (by simp)
    · simp only [if_neg hn, if_true, Option.some.injEq] at h
      rw [← h]; rfl
/-- What a guard expression tells is no number that may not be. -/
theorem gval_int {b : List Bd} (hb : gmayB b = true) {x : Tr} (hx : x.grd = true) {y : Tr} (h : x.gval b = some y) (hk : y.k = 0) : mayI y.n = true := by
  rw [gval_eq] at h
  rcases grd_kinds hx with ⟨h1, h2⟩ | ⟨h1, h2⟩
  · rcases h1 with h1 | h1 | h1 | h1
    · rw [if_pos h1] at h
      unfold gvarS at h
      cases hu : undB x.s
      · rw [hu, if_neg (by decide)] at h
        obtain ⟨d, hd, rfl, _⟩ := bfind_mem h
        exact one_int (chk_one (gmay_mem hb d hd)) hk
      · rw [hu, if_pos rfl] at h; cases h
    · rw [if_neg (by omega), if_pos h1] at h
      rw [← Option.some.inj h]
      exact (leaf_int h2 h1 : mayI x.n = true)
    · rw [if_neg (by omega), if_neg (by omega), if_pos h1] at h
      rw [← Option.some.inj h] at hk
      have hk : (1 : Int) = 0 := hk
      omega
    · rw [if_neg (by omega), if_neg (by omega), if_neg (by omega), if_pos h1] at h
      rw [← Option.some.inj h] at hk
      have hk : (6 : Int) = 0 := hk
      omega
  · have hn : x.k ≠ 5 ∧ x.k ≠ 6 ∧ x.k ≠ 7 ∧ x.k ≠ 8 := by rcases h1 with h1 | h1 | h1 <;> omega
    rw [if_neg hn.1, if_neg hn.2.1, if_neg hn.2.2.1, if_neg hn.2.2.2] at h
    cases hv : Tr.gval.vals x.l b with
    | none => rw [hv] at h; cases h
    | some r =>
      rw [hv] at h
      change gput x r = some y at h
      unfold gput at h
      by_cases h10 : x.k = 10
      · rw [if_pos h10] at h
        have := okT_kind h
        omega
      rw [if_neg h10] at h
      by_cases h9 : x.k = 9
      · rw [if_pos h9] at h
        have := okT_kind h
        omega
      rw [if_neg h9] at h
      unfold gdo at h
      split at h
      · split at h
        · rename_i hm
          rw [← Option.some.inj h]
          exact hm
        · cases h
      · cases h
theorem nn_len (L : List Tr) : L.length ≤ Tr.nn.nnl L := by
  induction L with
  | nil => exact Nat.le_refl _
  | cons a r ihr => rw [Tr.nn.nnl, List.length_cons]; have := nn_pos a; omega
theorem may_wf {n : Int} (h : mayI n = true) : (Lit.int .i64 n).wf = true := by
  have := may_nat h
  simp only [Lit.wf, Bool.and_eq_true, decide_eq_true_eq]
  exact ⟨by show (-9223372036854775808 : Int) ≤ n; omega, by show n ≤ (9223372036854775807 : Int); omega⟩
end Go.Proofs.YtlhobpknflobgaaGreatDoor
