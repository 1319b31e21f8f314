/-
  Arguments that are rows of binds; the table of letters as the row lays it. No condition.
-/
import Derived.Test.YtjnmdbfijdnaiaaGreatDoorRow1
import Derived.Test.YtjnmdbfijdnaiaaGreatDoorLaw
import Derived.Stop.Joined
namespace Go.Proofs.YtjnmdbfijdnaiaaGreatDoor
open Go.ChangeShapes Go.WideShapes Go.ChangeAt Go.RowKit Go.Joins Go.Deep

section
variable {H : Type} {enc : TypeId × Value → H} {w : World} {v : Value} {d : DataW H} {p : List MemPlace}
set_option maxRecDepth 100000 in
theorem open_term : ∀ fuel, TreeAt enc w 28 fuel := open_tree (S := 26) Tryz.underlying28 (by kernel_rfl) Tryz.underlying26 (by kernel_rfl) (by kernel_rfl) (by kernel_rfl)
set_option maxRecDepth 100000 in
theorem open_node : ∀ fuel, TreeAt enc w 25 fuel := open_tree (S := 23) Tryz.underlying25 (by kernel_rfl) Tryz.underlying23 (by kernel_rfl) (by kernel_rfl) (by kernel_rfl)

set_option maxRecDepth 100000 in
/-- A tree that is handed over by value. -/
theorem open_arg {T : TypeId} {fs : Array Field} (hT : Tryz.prog.underlying T = some (.struct fs)) (ht : ∀ fuel, TreeAt enc w T fuel) {base : Nat} (hv : Value.okWide Tryz.prog w .any base T v) (h : DataW.Trod enc Tryz.prog w 0 (fun _ => true) true T v d p) (hw : ∀ m ∈ d.weights Tryz.prog T, m ≤ reachBytes) :
    ∃ (tr : Tr) (sv : Value), v = .agg #[.int .i8 tr.k, .int .i64 tr.n, .string tr.s, .string tr.t, sv] ∧ TrV (fun _ => True) w tr sv := by
  obtain ⟨cs, rfl, _⟩ := okWide_struct hT hv
  obtain ⟨fuel, hf⟩ := h
  obtain ⟨tr, sv, e, hx⟩ := ht fuel _ _ hf hw
  refine ⟨tr, sv, ?_, hx⟩
  have : cs.toList = [.int .i8 tr.k, .int .i64 tr.n, .string tr.s, .string tr.t, sv] := by simpa [Value.cells] using e
  obtain ⟨l⟩ := cs
  simp only at this
  rw [this]

set_option maxRecDepth 100000 in
/-- One bind. -/
theorem open_bind {n : Nat} {cs : List Value} {x : DataW H × List MemPlace} (h : DataW.trod enc Tryz.prog w 0 (fun _ => true) true n 48 cs = some x) (hw : ∀ m ∈ x.1.weights Tryz.prog 48, m ≤ reachBytes) :
    ∃ q : Bd × Value, cs = bcells q ∧ TrV (fun _ => True) w q.1.t q.2 ∧ q.1.s.size ≤ BL * 64 := by
  obtain ⟨y0, y1, m, rfl, hl, h0, h1⟩ := trod_struct2 Tryz.underlying48 h
  have hl6 : cs.length = 6 := hl.trans (by kernel_rfl)
  match cs, hl6 with
  | [c0, c1, c2, c3, c4, c5], _ =>
    have h0' : DataW.trod enc Tryz.prog w 0 (fun _ => true) true m 9 [c0] = some y0 := by
      have e : (([c0, c1, c2, c3, c4, c5] : List Value).drop 0).take (Tryz.prog.cellsOf 9) = [c0] := by rw [show Tryz.prog.cellsOf 9 = 1 from by kernel_rfl]; rfl
      rw [← e]; exact h0
    have h1' : DataW.trod enc Tryz.prog w 0 (fun _ => true) true m 28 [c1, c2, c3, c4, c5] = some y1 := by
      have e : (([c0, c1, c2, c3, c4, c5] : List Value).drop 1).take (Tryz.prog.cellsOf 28) = [c1, c2, c3, c4, c5] := by rw [show Tryz.prog.cellsOf 28 = 5 from by kernel_rfl]; rfl
      rw [← e]; exact h1
    obtain ⟨s, e0, e1⟩ := trod_str Tryz.underlying9 h0'
    cases e0
    subst e1
    have hW : ∀ m, m ∈ DataW.weightsEach Tryz.prog [9, 28] [.lit (.string s.data.toList), y1.1] → m ≤ reachBytes := by
      intro m hm
      refine hw m ?_
      rw [weights_struct Tryz.underlying48]
      exact hm
    have hws : s.data.toList.length ≤ reachBytes := hW _ (by simp [DataW.weightsEach, DataW.weights])
    obtain ⟨tr, sv, e, ht⟩ := open_term m _ _ h1' (fun k hk => hW k (by simp [DataW.weightsEach, hk]))
    simp only [List.cons.injEq, and_true] at e
    obtain ⟨rfl, rfl, rfl, rfl, rfl⟩ := e
    exact ⟨(⟨s, tr⟩, c5), rfl, ht, fit_small (show s.size ≤ _ by simpa using hws)⟩

set_option maxRecDepth 100000 in
/-- A row of binds. -/
theorem open_binds {base : Nat} (hv : Value.okWide Tryz.prog w .any base 29 v) (h : DataW.Trod enc Tryz.prog w 0 (fun _ => true) true 29 v d p) (hw : ∀ m ∈ d.weights Tryz.prog 29, m ≤ reachBytes) : ∃ l, Binds (fun _ => True) w v l := by
  obtain ⟨pt, len, cap, rfl⟩ := okWide_slice Tryz.underlying29 hv
  obtain ⟨fuel, hf⟩ := h
  rcases DataW.trod_slice Tryz.underlying29 hf with ⟨e, _⟩ | ⟨a, len', cap', elems, rest, n, rfl, e, hx, _, hl, _, hlen, hel, _, _⟩
  · simp [Value.cells] at e
    obtain ⟨rfl, rfl, rfl⟩ := e
    exact ⟨[], Binds.nil _ _⟩
  · simp [Value.cells] at e
    obtain ⟨rfl, rfl, rfl⟩ := e
    obtain rfl : d = .slice (elems.map (·.1)) (rest.map (·.1)) := (Prod.mk.inj hx).1
    have hw1 : (elems.length + rest.length) * 88 ≤ reachBytes := by
      refine hw _ ?_
      rw [weights_slice Tryz.underlying29, show Tryz.prog.bytesOf 48 = 88 from by kernel_rfl, List.length_map, List.length_map]
      exact List.mem_cons_self
    have hw2 : ∀ y ∈ elems, ∀ m ∈ y.1.weights Tryz.prog 48, m ≤ reachBytes := by
      intro y hy m hm
      refine hw m ?_
      rw [weights_slice Tryz.underlying29]
      exact List.mem_cons_of_mem _ (List.mem_append_left _ (weightsAll_mem (List.mem_map.2 ⟨y, hy, rfl⟩) m hm))
    have each : ∀ i, ∃ q : Bd × Value, i < len → (∀ j u, (bcells q)[j]? = some u → w.cell? (a.add (i * 6 + j)) = some u) ∧ TrV (fun _ => True) w q.1.t q.2 ∧ q.1.s.size ≤ BL * 64 := fun i => by
      by_cases hil : i < len
      · have h1 := hel i hil
        rw [List.getElem?_eq_getElem (by omega)] at h1
        obtain ⟨cs', hc', ht'⟩ := Option.bind_eq_some_iff.1 h1
        obtain ⟨q, rfl, hq⟩ := open_bind ht' (hw2 _ (List.getElem_mem _))
        rw [show Tryz.prog.cellsOf 48 = 6 from by kernel_rfl] at hc'
        obtain ⟨_, _, hat⟩ := World.cells?_some hc'
        refine ⟨q, fun _ => ⟨fun j u hu => ?_, hq⟩⟩
        have hj : j < 6 := by have := (List.getElem?_eq_some_iff.1 hu).1; simpa [bcells] using this
        have := hat j hj
        rw [add_add] at this
        exact this.trans hu
      · exact ⟨(⟨eS, zeroT⟩, undef), fun h => absurd h hil⟩
    obtain ⟨Q, hQ⟩ := Classical.axiomOfChoice each
    have hlb : len ≤ BL := by unfold reachBytes at hw1; unfold BL; omega
    refine ⟨(List.range len).map fun i => (Q i).1, some a, cap, by simp, by simpa using hl, by simpa using hlb, fun i hi => ?_, fun e => by cases e⟩
    have hi' : i < len := by simpa using hi
    have hm : ((List.range len).map fun i => (Q i).1)[i] = (Q i).1 := by simp
    obtain ⟨hcell, htr, hs⟩ := hQ i hi'
    have h00 : ∃ g o, a = ⟨g, o, none⟩ := by
      obtain ⟨g, o, e⟩ := spot_none ((hQ 0 (by omega)).1 0 _ rfl)
      refine ⟨g, o, ?_⟩
      simpa [Addr.add] using e
    obtain ⟨g, o, rfl⟩ := h00
    rw [hm]
    refine ⟨g, o, (Q i).2, rfl, trivial, ?_, hs, ⟨?_, ?_, ?_, ?_, ?_⟩, htr⟩
    · have := hcell 0 _ rfl; rw [addr_add] at this; simpa using this
    · have := hcell 1 _ rfl; rw [addr_add] at this; simpa [Nat.add_assoc] using this
    · have := hcell 2 _ rfl; rw [addr_add] at this; simpa [Nat.add_assoc] using this
    · have := hcell 3 _ rfl; rw [addr_add] at this; simpa [Nat.add_assoc] using this
    · have := hcell 4 _ rfl; rw [addr_add] at this; simpa [Nat.add_assoc] using this
    · have := hcell 5 _ rfl; rw [addr_add] at this; simpa [Nat.add_assoc] using this
end

theorem gLetters : Tryz.prog.globalNamed "pleach/atoms.letters" = some 0 := by kernel_rfl
theorem tLetters : (Tryz.prog.globals[0]?).map (·.type) = some 70 := by kernel_rfl
def laidL {H : Type} : List (String × DataW H) := [("pleach/atoms.letters", Rows.laid_pleach_atoms_letters)]
set_option maxRecDepth 100000 in
theorem pair_u8 {H : Type} {enc : TypeId × Value → H} {w : World} {held : Bool} {sp : Nat → Bool} {fuel : Nat} {a b : Value} {x : DataW H × List MemPlace} {p q : Int} (h : DataW.trod enc Tryz.prog w 0 sp held fuel 69 [a, b] = some x) (hx : x.1 = .agg [.lit (.int .u8 p), .lit (.int .u8 q)]) : a = .int .u8 p ∧ b = .int .u8 q := by
  obtain ⟨xs, m, rfl, rfl, _, hn, hel⟩ := DataW.trod_array Tryz.underlying69 h
  obtain ⟨x0, x1, rfl⟩ := list2 hn
  have h0 := hel 0 (by decide)
  have h1 := hel 1 (by decide)
  rw [show Tryz.prog.cellsOf 5 = 1 from by kernel_rfl] at h0 h1
  simp only [Nat.zero_mul, Nat.one_mul, List.drop_zero, List.drop_succ_cons, List.take_succ_cons, List.take_zero, List.getElem?_cons_zero, List.getElem?_cons_succ] at h0 h1
  obtain ⟨n0, e0, f0, _⟩ := DataW.trod_int Tryz.underlying5 h0
  obtain ⟨n1, e1, f1, _⟩ := DataW.trod_int Tryz.underlying5 h1
  cases e0; cases e1
  subst f0 f1
  simp at hx
  rw [hx.1, hx.2]
  exact ⟨rfl, rfl⟩
theorem list4 {α : Type} {l : List α} (h : l.length = 4) : ∃ a b c d, l = [a, b, c, d] := by
  match l, h with
  | [a, b, c, d], _ => exact ⟨a, b, c, d, rfl⟩
theorem list8 {α : Type} {l : List α} (h : l.length = 8) : ∃ a b c d e f g i, l = [a, b, c, d, e, f, g, i] := by
  match l, h with
  | [a, b, c, d, e, f, g, i], _ => exact ⟨a, b, c, d, e, f, g, i, rfl⟩
set_option maxRecDepth 100000 in
theorem of_laid {W : World} (h : laidMetH Tryz.prog laidL W) : Letters W := by
  rw [MakeChecks.laidMetH_plain _ _ _ (by kernel_rfl)] at h
  obtain ⟨ps, ⟨g0, t0, cs0, f0, p0, q0, hg0, ht0, hv0, hd0, _, _⟩, _, _⟩ := h
  obtain rfl := Option.some.inj (gLetters.symm.trans hg0)
  obtain rfl := Option.some.inj (tLetters.symm.trans ht0)
  obtain ⟨xs, m, rfl, hx, hlen, hn, hel⟩ := DataW.trod_array Tryz.underlying70 hd0
  have hl8 : cs0.toList.length = 8 := hlen.trans (by kernel_rfl)
  have hcell := fun i => World.var?_cell hg0 hv0 i
  obtain ⟨l⟩ := cs0
  simp only at hl8 hel
  obtain ⟨a, b, c, d, e, f, g, i, rfl⟩ := list8 hl8
  obtain ⟨x0, x1, x2, x3, rfl⟩ := list4 hn
  have h0 := hel 0 (by decide)
  have h1 := hel 1 (by decide)
  have h2 := hel 2 (by decide)
  have h3 := hel 3 (by decide)
  rw [show Tryz.prog.cellsOf 69 = 2 from by kernel_rfl] at h0 h1 h2 h3
  simp only [Nat.zero_mul, Nat.one_mul, Nat.reduceMul, List.drop_zero, List.drop_succ_cons, List.take_succ_cons, List.take_zero, List.getElem?_cons_zero, List.getElem?_cons_succ] at h0 h1 h2 h3
  simp only [Prod.mk.injEq, Rows.laid_pleach_atoms_letters, DataW.agg.injEq, List.map_cons, List.map_nil, List.cons.injEq, and_true] at hx
  obtain ⟨⟨k0, k1, k2, k3⟩, _⟩ := hx
  obtain ⟨rfl, rfl⟩ := pair_u8 h0 k0.symm
  obtain ⟨rfl, rfl⟩ := pair_u8 h1 k1.symm
  obtain ⟨rfl, rfl⟩ := pair_u8 h2 k2.symm
  obtain ⟨rfl, rfl⟩ := pair_u8 h3 k3.symm
  exact ⟨hcell 0, hcell 1, hcell 2, hcell 3, hcell 4, hcell 5, hcell 6, hcell 7⟩
/-- The door's own heap meets the condition. -/
theorem door_met (os : Os) (args : Array Value) : laidMetH Tryz.prog laidL ((World.doorLaid Tryz.prog 400 os).forCall (fun _ _ => 0) ⟨#[], args, []⟩).memory :=
  laidMetH_of_parts3 (fuel := 8) (laidMet_of_run' 8 (by kernel_rfl) (by kernel_rfl)) (by kernel_rfl) (by kernel_rfl)
end Go.Proofs.YtjnmdbfijdnaiaaGreatDoor
