/-
  pleachref07.Great, wakes, over data; rows' bounds. No condition but that trees be in range.
-/
import Derived.Test.YtdjafnjmkkagjaaGreatDoorOb2
import Derived.Test.YtdjafnjmkkagjaaGreatDoorWk7
namespace Go.Proofs.YtdjafnjmkkagjaaGreatDoor.Oa.C1
open Go.RowKit Sx
set_option maxRecDepth 100000
theorem great_pu (x : Tr) (hx : TrOk x) : Pu 26 [agV x] (.b (decide (8192 ≤ x.sz 8192))) := by
  refine .of (enter_of Tryz.func26 (by kernel_rfl)) fun w M vs hM hT hvs => ?_
  obtain ⟨vs⟩ := vs
  obtain ⟨v, rest, rfl, hv, rfl⟩ := hvs
  obtain ⟨sv, rfl, ht⟩ := agV_vr hM hx hv
  refine (greatN_any ht).mono ?_
  rintro e w' ⟨rfl, hb⟩
  exact ⟨_, rfl, rfl, hb⟩
theorem wakes_pu : Pu 27 [] (.b true) := wakes7 rfl rho_ok (.head _)
theorem at_row {l : List Tr} {k : Nat} (h : k < l.length) : List.getD (rowsT l) (Int.toNat (k : Int)) [] = rowV l[k] := rowsT_at h
theorem h_in {l : List Tr} {k : Nat} (h : k < l.length) : decide ((k : Int) < (List.length (rowsT l) : Int)) = true := by rw [rowsT_len]; simp; omega
theorem h_out {l : List Tr} {k : Nat} (h : k = l.length) : decide ((k : Int) < (List.length (rowsT l) : Int)) = false := by rw [rowsT_len]; simp; omega
theorem h_b {l : List Tr} {k : Nat} (h : k < l.length) : Sx.inB (k : Int) (List.length (rowsT l)) = true := by rw [rowsT_len]; unfold Sx.inB; simp; omega
theorem h_k {n : Int} (h0 : -1 ≤ n) (h : n ≤ 2199023255552) : Sx.inK .i64 (n + 1) = true := by
  unfold Sx.inK IntKind.min IntKind.max
  simp [IntKind.signed, IntKind.bits]
  omega
theorem inK_small {n : Int} (h : -1000 ≤ n) (h' : n ≤ 100000) : Sx.inK .i64 n = true := by
  unfold Sx.inK IntKind.min IntKind.max
  simp [IntKind.signed, IntKind.bits]
  omega
theorem h_k' {l : List Tr} {k : Nat} (hl : l.length ≤ BL) (h : k < l.length) : Sx.inK .i64 ((k : Int) + 1) = true := h_k (by omega) (by unfold BL at hl; omega)
end Go.Proofs.YtdjafnjmkkagjaaGreatDoor.Oa.C1
