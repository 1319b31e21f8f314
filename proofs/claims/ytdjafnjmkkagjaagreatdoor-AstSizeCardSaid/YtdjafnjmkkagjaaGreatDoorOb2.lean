/-
  Contracts over memory turned to contracts over data (measure, name, atom); a fold over trees; each over trees. Conditions: as said.
-/
import Derived.Test.YtdjafnjmkkagjaaGreatDoorOb1
import Derived.Test.YtdjafnjmkkagjaaGreatDoorSa1
namespace Go.Proofs.YtdjafnjmkkagjaaGreatDoor.Oa
open Go.RowKit Sx
set_option maxRecDepth 100000
theorem inB_iff {j : Int} {n : Nat} : Sx.inB j n = true ↔ 0 ≤ j ∧ j < n := by unfold Sx.inB; simp
theorem inS_iff {a b : Int} {n : Nat} : Sx.inS a b n = true ↔ 0 ≤ a ∧ a ≤ b ∧ b ≤ n := by unfold Sx.inS; simp
theorem inK64_iff {n : Int} : Sx.inK .i64 n = true ↔ -9223372036854775808 ≤ n ∧ n ≤ 9223372036854775807 := by
  unfold Sx.inK IntKind.min IntKind.max
  simp [IntKind.signed, IntKind.bits]
theorem BL_eq : BL = 2199023255552 := rfl
/-- A fact of numbers beside a run. -/

theorem enter_of {P : Program} {f : Nat} {fn : Func} (hfn : P.funcs[f]? = some fn) (hc : (cFunc P fn).isSome = true) (vs : Array Value) (w : World) : (callFunc f vs).run P w = .ok (.enter f vs) w := by
  unfold cFunc at hc
  split at hc
  · cases hc
  rename_i c hb
  split at hc
  · cases hc
  rename_i hname
  unfold callFunc
  rw [run_bind, run_program]
  simp only [hfn]
  rw [if_neg hname, hb]
  rfl
theorem bl64 : BL * 64 = 140737488355328 := by decide
theorem measure_pu {x : Tr} (hx : TrOk x) : Pu 61 [.ep 57 0 (rowV x)] (.ag [.i .i64 (x.sz 4097), .i .i64 (x.dp 65)]) := by
  refine .of (enter_of Tryz.func61 (by kernel_rfl)) fun w M vs hM hT hvs => ?_
  obtain ⟨vs⟩ := vs
  obtain ⟨v, rest, rfl, hv, rfl⟩ := hvs
  obtain ⟨g, o, sv, rfl, hn, ht⟩ := node_vr hM hx hv
  refine (measure_any hn ht).mono ?_
  rintro e w' ⟨rfl, hb⟩
  exact ⟨_, rfl, ⟨_, rfl, _, _, rfl, rfl, _, _, rfl, rfl, rfl⟩, hb⟩
theorem name_pu {s : ByteArray} (hs : s.size ≤ BL * 64) : Pu 179 [.s (nats s)] (.b (nameA s)) := by
  refine .of (enter_of Tryz.func179 (by kernel_rfl)) fun w M vs hM hT hvs => ?_
  obtain ⟨vs⟩ := vs
  obtain ⟨v, rest, rfl, hv, rfl⟩ := hvs
  rw [str_vr hv]
  refine (tname_any w s (bl64 ▸ hs)).mono ?_
  rintro e w' ⟨rfl, hb⟩
  exact ⟨_, rfl, rfl, hb⟩
theorem atom_pu {s : ByteArray} (hs : s.size ≤ BL * 64) : Pu 72 [.s (nats s)] (.b (atomN s)) := by
  refine .of (enter_of Tryz.func72 (by kernel_rfl)) fun w M vs hM hT hvs => ?_
  obtain ⟨vs⟩ := vs
  obtain ⟨v, rest, rfl, hv, rfl⟩ := hvs
  rw [str_vr hv]
  refine (tatom_any (letters_of hM hT) s (bl64 ▸ hs)).mono ?_
  rintro e w' ⟨rfl, hb⟩
  exact ⟨_, rfl, rfl, hb⟩

mutual
/-- A fold. -/
def foldT {β : Type} (f : Tr → List β → β) : Tr → β
  | .mk k n s t l => f (.mk k n s t l) (foldL f l)
def foldL {β : Type} (f : Tr → List β → β) : List Tr → List β
  | [] => []
  | x :: r => foldT f x :: foldL f r
end
theorem foldL_eq {β : Type} (f : Tr → List β → β) : ∀ l : List Tr, foldL f l = l.map (foldT f)
  | [] => by simp [foldL]
  | x :: r => by rw [foldL, foldL_eq f r]; rfl
theorem foldT_eq {β : Type} (f : Tr → List β → β) (x : Tr) : foldT f x = f x (x.l.map (foldT f)) := by
  cases x with
  | mk k n s t l => rw [foldT, foldL_eq]; rfl

theorem nats_inj {a b : ByteArray} (h : nats a = nats b) : a = b := by rw [← bytes_nats a, h, bytes_nats]
theorem rowV_inj : ∀ x y : Tr, rowV x = rowV y → x = y := by
  intro x
  induction x using Tr.ind with
  | h x ih =>
    intro y h
    cases x with
    | mk k n s t l =>
      cases y with
      | mk k' n' s' t' l' =>
        simp only [rowV, Tr.k, Tr.n, Tr.s, Tr.t, Tr.l, List.cons.injEq, Dat.i.injEq, Dat.s.injEq, Dat.r.injEq, and_true] at h
        replace ih : ∀ y, y ∈ l → ∀ y_1, rowV y = rowV y_1 → y = y_1 := ih
        obtain ⟨rfl, rfl, h3, h4, h5⟩ := h
        have e3 := nats_inj h3
        have e4 := nats_inj h4
        subst e3 e4
        have : l = l' := by
          rw [rowsT_map, rowsT_map] at h5
          clear h3 h4
          induction l generalizing l' with
          | nil => cases l' with
            | nil => rfl
            | cons _ _ => simp at h5
          | cons a r ihl => cases l' with
            | nil => simp at h5
            | cons b r' =>
              simp only [List.map_cons, List.cons.injEq] at h5
              rw [ih a (List.mem_cons_self ..) b h5.1, ihl r' (fun y hy => ih y (List.mem_cons_of_mem _ hy)) h5.2]
        rw [this]
theorem each_tr {L : List Tr} {G : Nat} {FI CA : List TV} {f : Tr → Bool} (hF : freeL FI = true) (hC : freeL CA = true) (hlen : L.length ≤ BL) (h : ∀ y, y ∈ L → Pu G (FI ++ ([.ep 57 0 (rowV y)] ++ CA)) (.b (f y))) : Pu 73 [.es 57 (.r (rowsT L)), .f (.func G) FI CA] (.b (L.all f)) := by
  classical
  have hP : ∀ y, y ∈ L → decide (∃ z, z ∈ L ∧ rowV z = rowV y ∧ f z = true) = f y := fun y hy => by
    by_cases hf : f y = true
    · rw [hf, decide_eq_true_eq]; exact ⟨y, hy, rfl, hf⟩
    · rw [Bool.not_eq_true] at hf
      rw [hf, decide_eq_false_iff_not]
      rintro ⟨z, _, h2, h3⟩
      rw [rowV_inj z y h2, hf] at h3
      cases h3
  have := B1.each_pu (l := rowsT L) (G := G) (P := fun row => decide (∃ z, z ∈ L ∧ rowV z = row ∧ f z = true)) hF hC (by rw [rowsT_len]; exact hlen) (fun row hr => by
    rw [rowsT_map, List.mem_map] at hr
    obtain ⟨y, hy, rfl⟩ := hr
    rw [hP y hy]
    exact h y hy)
  have e : (rowsT L).all (fun row => decide (∃ z, z ∈ L ∧ rowV z = row ∧ f z = true)) = L.all f := by
    rw [rowsT_map, List.all_map, Bool.eq_iff_iff, List.all_eq_true, List.all_eq_true]
    constructor
    · intro q y hy
      have := q y hy
      simp only [Function.comp] at this
      rwa [hP y hy] at this
    · intro q y hy
      simp only [Function.comp]
      rw [hP y hy]; exact q y hy
  rw [e] at this
  exact this
end Go.Proofs.YtdjafnjmkkagjaaGreatDoor.Oa
