/-
  Specifications of children and supervisors, of what can be read; pleachref25.many, manySup, Great: they come to an end. No condition.
-/
import Derived.Test.YtdjafnjmkkagjaaGreatDoorRd2
import Derived.StillTailTactics
import Derived.Deep.RegionWith
namespace Go.Proofs.YtdjafnjmkkagjaaGreatDoor.Rdb
open Go.RowKit

set_option maxRecDepth 100000 in
theorem rd_child {w : World} {n : Nat} {cs : List Value} (h : Rd Tryz.prog w n 28 cs) : ∃ (m : Nat) (x : Tr) (sv : Value) (kd rs sh : Int) (mn fn : ByteArray) (av : Value) (la : List Tr) (uv : Value), m < n ∧
    cs = [.int .i8 x.k, .int .i64 x.n, .string x.s, .string x.t, sv, .int .i8 kd, .int .i8 rs, .int .i64 sh, .string mn, .string fn, av, uv] ∧ TrV (fun _ => True) w x sv ∧ Kids (fun _ => True) w av la ∧ Rd Tryz.prog w m 26 [uv] := by
  obtain ⟨m, rfl, hl, hfs⟩ := rd_field Tryz.underlying28 (L := [(25, 0), (22, 5), (22, 6), (3, 7), (9, 8), (9, 9), (23, 10), (26, 11)]) (by kernel_rfl) h
  rw [show Tryz.prog.cellsOf 28 = 12 from by kernel_rfl] at hl
  match cs, hl with
  | [c0, c1, c2, c3, c4, c5, c6, c7, c8, c9, c10, c11], _ =>
    have k0 := hfs 0 _ _ rfl
    have k1 := hfs 1 _ _ rfl
    have k2 := hfs 2 _ _ rfl
    have k3 := hfs 3 _ _ rfl
    have k4 := hfs 4 _ _ rfl
    have k5 := hfs 5 _ _ rfl
    have k6 := hfs 6 _ _ rfl
    have k7 := hfs 7 _ _ rfl
    rw [show Tryz.prog.cellsOf 25 = 5 from by kernel_rfl] at k0
    rw [show Tryz.prog.cellsOf 22 = 1 from by kernel_rfl] at k1 k2
    rw [show Tryz.prog.cellsOf 3 = 1 from by kernel_rfl] at k3
    rw [show Tryz.prog.cellsOf 9 = 1 from by kernel_rfl] at k4 k5
    rw [show Tryz.prog.cellsOf 23 = 1 from by kernel_rfl] at k6
    rw [show Tryz.prog.cellsOf 26 = 1 from by kernel_rfl] at k7
    simp only [List.drop_zero, List.drop_succ_cons, List.take_succ_cons, List.take_zero] at k0 k1 k2 k3 k4 k5 k6 k7
    obtain ⟨x, sv, e0, hx⟩ := rd_term m _ k0
    obtain ⟨kd, e1, _⟩ := rd_int Tryz.underlying22 k1
    obtain ⟨rs, e2, _⟩ := rd_int Tryz.underlying22 k2
    obtain ⟨sh, e3, _⟩ := rd_int Tryz.underlying3 k3
    obtain ⟨mn, e4, _⟩ := rd_string Tryz.underlying9 k4
    obtain ⟨fn, e5, _⟩ := rd_string Tryz.underlying9 k5
    obtain ⟨av, la, e6, hk⟩ := rd_terms k6
    cases e0; cases e1; cases e2; cases e3; cases e4; cases e5; cases e6
    exact ⟨m, x, _, kd, rs, sh, mn, fn, _, la, c11, by omega, rfl, hx, hk, k7⟩
set_option maxRecDepth 100000 in
theorem rd_sup {w : World} {n : Nat} {cs : List Value} (h : Rd Tryz.prog w n 36 cs) : ∃ (m : Nat) (st mr mt : Int) (cv : Value), m < n ∧
    cs = [.int .i8 st, .int .i64 mr, .int .i64 mt, cv] ∧ Rd Tryz.prog w m 34 [cv] := by
  obtain ⟨m, rfl, hl, hfs⟩ := rd_field Tryz.underlying36 (L := [(22, 0), (3, 1), (3, 2), (34, 3)]) (by kernel_rfl) h
  rw [show Tryz.prog.cellsOf 36 = 4 from by kernel_rfl] at hl
  match cs, hl with
  | [c0, c1, c2, c3], _ =>
    have k0 := hfs 0 _ _ rfl
    have k1 := hfs 1 _ _ rfl
    have k2 := hfs 2 _ _ rfl
    have k3 := hfs 3 _ _ rfl
    rw [show Tryz.prog.cellsOf 22 = 1 from by kernel_rfl] at k0
    rw [show Tryz.prog.cellsOf 3 = 1 from by kernel_rfl] at k1 k2
    rw [show Tryz.prog.cellsOf 34 = 1 from by kernel_rfl] at k3
    simp only [List.drop_zero, List.drop_succ_cons, List.take_succ_cons, List.take_zero] at k0 k1 k2 k3
    obtain ⟨st, e1, _⟩ := rd_int Tryz.underlying22 k0
    obtain ⟨mr, e2, _⟩ := rd_int Tryz.underlying3 k1
    obtain ⟨mt, e3, _⟩ := rd_int Tryz.underlying3 k2
    cases e1; cases e2; cases e3
    exact ⟨m, st, mr, mt, c3, by omega, rfl, k3⟩

/-- A row of supervisors, one of them. -/
theorem rd_sups {w : World} {n : Nat} {uv : Value} (h : Rd Tryz.prog w n 26 [uv]) : ∃ m p len cap, m < n ∧ uv = .slice p len cap ∧ len ≤ 4000000000000 ∧ ∀ i, i < len → ∃ g o es, p = some ⟨g, o, none⟩ ∧ es.length = 4 ∧ (∀ (j : Nat) (u : Value), es[j]? = some u → w.cell? ⟨g, o + i * 4 + j, none⟩ = some u) ∧ Rd Tryz.prog w m 36 es := by
  obtain ⟨m, p, len, cap, rfl, e, _, hw, hel⟩ := rd_slice Tryz.underlying26 h
  cases e
  rw [show Tryz.prog.cellsOf 36 = 4 from by kernel_rfl] at hel
  rw [show Tryz.prog.bytesOf 36 = 48 from by kernel_rfl] at hw
  exact ⟨m, p, len, cap, by omega, rfl, by unfold reachBytes at hw; omega, fun i hi => hel i hi (by decide)⟩
theorem rd_children {w : World} {n : Nat} {uv : Value} (h : Rd Tryz.prog w n 34 [uv]) : ∃ m p len cap, m < n ∧ uv = .slice p len cap ∧ len ≤ 4000000000000 ∧ ∀ i, i < len → ∃ g o es, p = some ⟨g, o, none⟩ ∧ es.length = 12 ∧ (∀ (j : Nat) (u : Value), es[j]? = some u → w.cell? ⟨g, o + i * 12 + j, none⟩ = some u) ∧ Rd Tryz.prog w m 28 es := by
  obtain ⟨m, p, len, cap, rfl, e, _, hw, hel⟩ := rd_slice Tryz.underlying34 h
  cases e
  rw [show Tryz.prog.cellsOf 28 = 12 from by kernel_rfl] at hel
  rw [show Tryz.prog.bytesOf 28 = 168 from by kernel_rfl] at hw
  exact ⟨m, p, len, cap, by omega, rfl, by unfold reachBytes at hw; omega, fun i hi => hel i hi (by decide)⟩
end Go.Proofs.YtdjafnjmkkagjaaGreatDoor.Rdb
