/-
  Back as a contract over data. Conditions: stacks of at most 120 frames, of rows of at most 1200 things each.
-/
import Derived.Test.YtgjfdbbghefdbaaGreatDoorLt13
namespace Go.Proofs.YtgjfdbbghefdbaaGreatDoor.Lt
open Go.RowKit Sx Dd Fa Fa.B1 Fa.C1
set_option maxRecDepth 100000
theorem short_of {r : List Dat} (h : Small r) : Short r := ⟨h 3 (by simp), h 4 (by simp), h 5 (by simp), h 6 (by simp), h 28 (by simp), h 33 (by simp), h 34 (by simp)⟩
theorem getD_of {rows : List (List Dat)} {i : Nat} {row : List Dat} (h : rows[i]? = some row) : rows.getD i [] = row := by rw [List.getD_eq_getElem?_getD, h]; rfl
theorem enter_of {P : Program} {f : Nat} {fn : Func} (hfn : P.funcs[f]? = some fn) (hc : (cFunc P fn).isSome = true) (vs : Array Value) (w : World) : (callFunc f vs).run P w = .ok (.enter f vs) w := by
  unfold cFunc at hc
  split at hc
  · cases hc
  rename_i c hb
  split at hc
  · cases hc
  rename_i hname
  unfold callFunc
  rw [run_bind, run_program]
  simp only [hfn]
  rw [if_neg hname, hb]
  rfl
/-- A term's row. -/
abbrev tmR (k n : Int) (s t : List Nat) (a : Dat) : List Dat := [.i k, .i n, .s s, .s t, a]
theorem tm_good {M : Mem} {k n : Int} {s t : List Nat} {a : Dat} {v : Value} (h : VR rho (bare M) (tmV k n s t a) v) : ∃ ts, v = .agg ts ∧ Dd.Good lay M (lay 26) (tmR k n s t a) ts.toList := by
  obtain ⟨ts, rfl, h⟩ := h
  refine ⟨ts, rfl, vrs_good (ρ := rho) rfl (fun k hk => ?_) h⟩
  have hk : k ∈ [Kd.i .i8, .i .i64, .s, .s, .sl 26] := hk
  simp only [List.mem_cons, List.not_mem_nil, or_false] at hk
  rcases hk with rfl | rfl | rfl | rfl | rfl <;> exact ⟨(fun h => (by cases h)), (fun h => (by cases h))⟩
theorem es_slice {M : Mem} {T : Nat} {d : Dat} {v : Value} (h : VR rho (bare M) (.es T d) v) : ∃ p c, v = .slice p d.rows.length c ∧ DR lay M (.sl T) d (.slice p d.rows.length c) := by
  have h : DR lay M (.sl T) d v := h
  obtain ⟨p, c, rfl⟩ := dr_sl h
  exact ⟨p, c, rfl, h⟩
/-- What a call tells of a stack of its own. -/
theorem tell_stack {M : Mem} {w w' : World} {B n k c : Nat} {rows : List (List Dat)} {f : Nat → Value} (hM : MemOk M w) (hb : Below w.heap.size w w') (h : StIn M w.heap.size w' B n k rows f) (hB : w.heap.size ≤ B) (hk : rows.length = k) (hc : k ≤ c) (m o : Bool) :
    ∃ x M', Ending.returned (Value.tuple #[.slice (some ⟨B, 0, none⟩) k c, .bool m, .bool o]) = .returned x ∧ M.le M' ∧ (∀ b c, M' b = some c → M b = some c ∨ w.heap.size ≤ b) ∧ MemOk M' w' ∧ VR rho (bare M') (.tu [.es 43 (.r rows), .b m, .b o]) x ∧ Below w.heap.size w w' := by
  obtain ⟨h1, h2, h3⟩ := memAll_ok hM hb
  have hd := StIn.dr (d := .r rows) (c := c) hB h (by show rows.length ≤ k; omega) (by show rows.length ≤ c; omega)
  rw [show (Dat.r rows).rows.length = k from hk] at hd
  exact ⟨_, _, rfl, h1, h2, h3, ⟨_, rfl, _, _, rfl, hd, _, _, rfl, rfl, _, _, rfl, rfl, rfl⟩, hb⟩
theorem tell_none {M : Mem} {w w' : World} (hM : MemOk M w) (hb : Below w.heap.size w w') (m o : Bool) :
    ∃ x M', Ending.returned (Value.tuple #[.slice none 0 0, .bool m, .bool o]) = .returned x ∧ M.le M' ∧ (∀ b c, M' b = some c → M b = some c ∨ w.heap.size ≤ b) ∧ MemOk M' w' ∧ VR rho (bare M') (.tu [.es 43 (.r []), .b m, .b o]) x ∧ Below w.heap.size w w' :=
  ⟨_, M, rfl, fun _ _ q => q, fun _ _ q => .inl q, memOk_below hM hb, ⟨_, rfl, _, _, rfl, .nil _ (.r []) none 0 rfl, _, _, rfl, rfl, _, _, rfl, rfl, rfl⟩, hb⟩
theorem StIn.front {M : Mem} {s : Nat} {w : World} {B n k : Nat} {rows : List (List Dat)} {f : Nat → Value} (h : StIn M s w B n k rows f) : StIn M s w B n k (rows.take k) f :=
  ⟨h.row, h.kn, fun i hi => by
    obtain ⟨r, r1, r2⟩ := h.good i hi
    exact ⟨r, by rw [List.getElem?_take_of_lt hi]; exact r1, r2⟩⟩
section
variable {d : Dat} (hb : d.rows.length ≤ 120) (hs : ∀ row, row ∈ d.rows → Short row) {k n : Int} {s t : List Nat} {a : Dat}
include hb hs
omit hb hs in
theorem back_over (h0 : d.rows.length < 2) : Pu 10 [.es 43 d, tmV k n s t a] (.tu [.es 43 (.r []), .b false, .b true]) := by
  refine ⟨enter_of Tryz.func10 (by kernel_rfl), fun w M vs hM hT hvs => ?_⟩
  obtain ⟨vs⟩ := vs
  obtain ⟨v, _, rfl, hv, v3, _, rfl, hv3, rfl⟩ := hvs
  obtain ⟨p, c, rfl, hd⟩ := es_slice hv
  obtain ⟨ts, rfl, hg⟩ := tm_good hv3
  refine (back_short h0).mono ?_
  rintro e w' ⟨rfl, hbel⟩
  exact tell_none hM hbel false true
theorem back_mach (h0 : 2 ≤ d.rows.length) {row : List Dat} (hr : d.rows[d.rows.length - 2]? = some row) (hk : (row.getD 0 .o).int ≠ 0) : Pu 10 [.es 43 d, tmV k n s t a] (.tu [.es 43 (.r (d.rows.take (d.rows.length - 1))), .b true, .b false]) := by
  refine ⟨enter_of Tryz.func10 (by kernel_rfl), fun w M vs hM hT hvs => ?_⟩
  obtain ⟨vs⟩ := vs
  obtain ⟨v, _, rfl, hv, v3, _, rfl, hv3, rfl⟩ := hvs
  obtain ⟨p, c, rfl, hd⟩ := es_slice hv
  obtain ⟨ts, rfl, hg⟩ := tm_good hv3
  refine (back_front hM hd rfl h0 hb hs hr hk).mono ?_
  rintro e w' ⟨B, f, g, rfl, hB, hSt, hbel⟩
  exact tell_stack hM hbel (hSt.sin hB (le_memNot hM hB) (Nat.le_refl _) (Nat.le_refl _)) hB (by rw [List.length_take]; omega) (Nat.le_refl _) true false
theorem back_kode (h0 : 2 ≤ d.rows.length) {row : List Dat} (hr : d.rows[d.rows.length - 2]? = some row) (hk : (row.getD 0 .o).int = 0) : Pu 10 [.es 43 d, tmV k n s t a] (.tu [.es 43 (.r ((d.rows.take (d.rows.length - 1)).set (d.rows.length - 2) (row.set 5 (.r ((row.getD 5 .o).rows ++ [tmR k n s t a]))))), .b false, .b false]) := by
  refine ⟨enter_of Tryz.func10 (by kernel_rfl), fun w M vs hM hT hvs => ?_⟩
  obtain ⟨vs⟩ := vs
  obtain ⟨v, _, rfl, hv, v3, _, rfl, hv3, rfl⟩ := hvs
  obtain ⟨p, c, rfl, hd⟩ := es_slice hv
  obtain ⟨ts, rfl, hg⟩ := tm_good hv3
  refine (back_code hM hd rfl h0 hb hs hr hk hg).mono ?_
  rintro e w' ⟨B, f, rfl, hB, hSt, hbel⟩
  exact tell_stack hM hbel hSt hB (by rw [List.length_set, List.length_take]; omega) (Nat.le_refl _) false false
end
end Go.Proofs.YtgjfdbbghefdbaaGreatDoor.Lt
