/-
  A term's node by itself: pleach/term.kind, one; pleachref03.bare, one. Conditions: the node lies as 'NodeAt' says.
-/
import Derived.Test.YtlhobpknflobgaaGreatDoorS02
namespace Go.Proofs.YtlhobpknflobgaaGreatDoor
open Go.RowKit

/-- Is a text empty? -/
def emp (s : ByteArray) : Bool := s.toList.isEmpty
/-- Are the fields that a kind does not name empty? -/
def bareB (x : Tr) (n s t l : Bool) : Bool := (n || x.n == 0) && (s || emp x.s) && (t || emp x.t) && (l || (x.l.length : Int) == 0)

set_option maxHeartbeats 4000000 in
set_option maxRecDepth 100000 in
theorem kind1_any {w : World} {pb g o : Nat} {x : Tr} {p : Option Addr} {c : Nat} (hp : w.cell? ⟨pb, 0, none⟩ = some (.pointer (some ⟨g, o, none⟩))) (h : NodeAt w g o x (.slice p x.l.length c)) (n s t l : Bool) :
    Calls Tryz.prog 198 #[.bool n, .bool s, .bool t, .bool l, .pointer (some ⟨pb, 0, none⟩)] w fun e w' => e = .returned (.bool (bareB x n s t l)) ∧ w = w' := by
  obtain ⟨e0, e1, e2, e3, e4⟩ := h
  cases n <;> cases s <;> cases t <;> cases l
  all_goals
    go_enter Tryz.func198, Tryz.ntmps198
    go_wp2
    all_goals
      go_ret
      exact ⟨ret_bool (by simp [bareB, emp, *]), rfl⟩

theorem box_cell (w : World) (v : Value) (T : TypeId) : (w.alloc (.cells #[v] T)).cell? ⟨w.heap.size, 0, none⟩ = some v := by rw [World.cell?_alloc_at _ _ _ _ (by simp)]; rfl

/-- What a node is told to be. -/
def kindV (x : Tr) (sv : Value) : Value :=
  if x.k = 0 then (if bareB x true false false false then .iface 174 (.agg #[.int .i64 x.n]) else .nilIface)
  else if x.k = 2 ∨ x.k = 4 then (if bareB x true false false false then .iface 175 (.agg #[.int .i64 x.n]) else .nilIface)
  else if x.k = 1 then (if bareB x false true false false then .iface 177 (.agg #[.string x.s]) else .nilIface)
  else if x.k = 3 then (if bareB x true true true false then .iface 179 (.agg #[.string x.s, .string x.t, .int .i64 x.n]) else .nilIface)
  else if x.k = 5 then (if bareB x false false false true then .iface 181 (.agg #[sv, .int .i64 (-1)]) else .nilIface)
  else if x.k = 6 then (if bareB x false false false false then .iface 181 (.agg #[.slice none 0 0, .int .i64 0]) else .nilIface)
  else if x.k = 7 then (if bareB x false false false true then .iface 181 (.agg #[sv, .int .i64 2]) else .nilIface)
  else .nilIface

set_option maxHeartbeats 4000000 in
set_option maxRecDepth 100000 in
theorem kind_any {w : World} {g o : Nat} {x : Tr} {p : Option Addr} {c : Nat} (h : NodeAt w g o x (.slice p x.l.length c)) :
    Calls Tryz.prog 161 #[.pointer (some ⟨g, o, none⟩)] w fun e w' => e = .returned (kindV x (.slice p x.l.length c)) ∧ Below w.heap.size w w' := by
  have hk := h.k
  have hn := h.n
  have hs := h.s
  have ht := h.t
  have hkids := h.l
  have hlt := h.lt
  have cK := fun (W : World) (hb : Below w.heap.size w W) (hp : W.cell? ⟨w.heap.size, 0, none⟩ = some (.pointer (some ⟨g, o, none⟩))) => kind1_any hp (h.keep (hb.block g hlt))
  clear h
  by_cases h0 : x.k = 0
  · rw [h0] at hk
    cases hb : bareB x true false false false
    · have HV : Hid (kindV x (.slice p x.l.length c) = .nilIface) := by
        unfold Hid kindV; simp [h0, hb]
      have HB := Lib.hid hb
      clear hb h0
      go_enter Tryz.func161, Tryz.ntmps161
      go_wp2_with (go_at_call 198; refine (cK _ (alloc_below _ _) (box_cell _ _ _) _ _ _ _).mono ?_; rintro e w' ⟨rfl, rfl⟩; rw [HB.out])
      go_ret
      exact ⟨by rw [HV.out]; rfl, alloc_below _ _⟩
    · have HV : Hid (kindV x (.slice p x.l.length c) = .iface 174 (.agg #[.int .i64 x.n])) := by
        unfold Hid kindV; simp [h0, hb]
      have HB := Lib.hid hb
      clear hb h0
      go_enter Tryz.func161, Tryz.ntmps161
      go_wp2_with (go_at_call 198; refine (cK _ (alloc_below _ _) (box_cell _ _ _) _ _ _ _).mono ?_; rintro e w' ⟨rfl, rfl⟩; rw [HB.out])
      go_ret
      exact ⟨by rw [HV.out]; rfl, alloc_below _ _⟩
  by_cases h2 : x.k = 2
  · rw [h2] at hk
    cases hb : bareB x true false false false
    · have HV : Hid (kindV x (.slice p x.l.length c) = .nilIface) := by
        unfold Hid kindV; simp [h2, hb]
      have HB := Lib.hid hb
      clear hb h0 h2
      go_enter Tryz.func161, Tryz.ntmps161
      go_wp2_with (go_at_call 198; refine (cK _ (alloc_below _ _) (box_cell _ _ _) _ _ _ _).mono ?_; rintro e w' ⟨rfl, rfl⟩; rw [HB.out])
      go_ret
      exact ⟨by rw [HV.out]; rfl, alloc_below _ _⟩
    · have HV : Hid (kindV x (.slice p x.l.length c) = .iface 175 (.agg #[.int .i64 x.n])) := by
        unfold Hid kindV; simp [h2, hb]
      have HB := Lib.hid hb
      clear hb h0 h2
      go_enter Tryz.func161, Tryz.ntmps161
      go_wp2_with (go_at_call 198; refine (cK _ (alloc_below _ _) (box_cell _ _ _) _ _ _ _).mono ?_; rintro e w' ⟨rfl, rfl⟩; rw [HB.out])
      go_ret
      exact ⟨by rw [HV.out]; rfl, alloc_below _ _⟩
  by_cases h4 : x.k = 4
  · rw [h4] at hk
    cases hb : bareB x true false false false
    · have HV : Hid (kindV x (.slice p x.l.length c) = .nilIface) := by
        unfold Hid kindV; simp [h4, hb]
      have HB := Lib.hid hb
      clear hb h0 h2 h4
      go_enter Tryz.func161, Tryz.ntmps161
      go_wp2_with (go_at_call 198; refine (cK _ (alloc_below _ _) (box_cell _ _ _) _ _ _ _).mono ?_; rintro e w' ⟨rfl, rfl⟩; rw [HB.out])
      go_ret
      exact ⟨by rw [HV.out]; rfl, alloc_below _ _⟩
    · have HV : Hid (kindV x (.slice p x.l.length c) = .iface 175 (.agg #[.int .i64 x.n])) := by
        unfold Hid kindV; simp [h4, hb]
      have HB := Lib.hid hb
      clear hb h0 h2 h4
      go_enter Tryz.func161, Tryz.ntmps161
      go_wp2_with (go_at_call 198; refine (cK _ (alloc_below _ _) (box_cell _ _ _) _ _ _ _).mono ?_; rintro e w' ⟨rfl, rfl⟩; rw [HB.out])
      go_ret
      exact ⟨by rw [HV.out]; rfl, alloc_below _ _⟩
  by_cases h1 : x.k = 1
  · rw [h1] at hk
    cases hb : bareB x false true false false
    · have HV : Hid (kindV x (.slice p x.l.length c) = .nilIface) := by
        unfold Hid kindV; simp [h1, hb]
      have HB := Lib.hid hb
      clear hb h0 h2 h4 h1
      go_enter Tryz.func161, Tryz.ntmps161
      go_wp2_with (go_at_call 198; refine (cK _ (alloc_below _ _) (box_cell _ _ _) _ _ _ _).mono ?_; rintro e w' ⟨rfl, rfl⟩; rw [HB.out])
      go_ret
      exact ⟨by rw [HV.out]; rfl, alloc_below _ _⟩
    · have HV : Hid (kindV x (.slice p x.l.length c) = .iface 177 (.agg #[.string x.s])) := by
        unfold Hid kindV; simp [h1, hb]
      have HB := Lib.hid hb
      clear hb h0 h2 h4 h1
      go_enter Tryz.func161, Tryz.ntmps161
      go_wp2_with (go_at_call 198; refine (cK _ (alloc_below _ _) (box_cell _ _ _) _ _ _ _).mono ?_; rintro e w' ⟨rfl, rfl⟩; rw [HB.out])
      go_ret
      exact ⟨by rw [HV.out]; rfl, alloc_below _ _⟩
  by_cases h3 : x.k = 3
  · rw [h3] at hk
    cases hb : bareB x true true true false
    · have HV : Hid (kindV x (.slice p x.l.length c) = .nilIface) := by
        unfold Hid kindV; simp [h3, hb]
      have HB := Lib.hid hb
      clear hb h0 h2 h4 h1 h3
      go_enter Tryz.func161, Tryz.ntmps161
      go_wp2_with (go_at_call 198; refine (cK _ (alloc_below _ _) (box_cell _ _ _) _ _ _ _).mono ?_; rintro e w' ⟨rfl, rfl⟩; rw [HB.out])
      go_ret
      exact ⟨by rw [HV.out]; rfl, alloc_below _ _⟩
    · have HV : Hid (kindV x (.slice p x.l.length c) = .iface 179 (.agg #[.string x.s, .string x.t, .int .i64 x.n])) := by
        unfold Hid kindV; simp [h3, hb]
      have HB := Lib.hid hb
      clear hb h0 h2 h4 h1 h3
      go_enter Tryz.func161, Tryz.ntmps161
      go_wp2_with (go_at_call 198; refine (cK _ (alloc_below _ _) (box_cell _ _ _) _ _ _ _).mono ?_; rintro e w' ⟨rfl, rfl⟩; rw [HB.out])
      go_quiet (fail)
      go_wp2
      go_ret
      exact ⟨by rw [HV.out]; rfl, below_drewN (alloc_below _ _) nq⟩
  by_cases h5 : x.k = 5
  · rw [h5] at hk
    cases hb : bareB x false false false true
    · have HV : Hid (kindV x (.slice p x.l.length c) = .nilIface) := by
        unfold Hid kindV; simp [h5, hb]
      have HB := Lib.hid hb
      clear hb h0 h2 h4 h1 h3 h5
      go_enter Tryz.func161, Tryz.ntmps161
      go_wp2_with (go_at_call 198; refine (cK _ (alloc_below _ _) (box_cell _ _ _) _ _ _ _).mono ?_; rintro e w' ⟨rfl, rfl⟩; rw [HB.out])
      go_ret
      exact ⟨by rw [HV.out]; rfl, alloc_below _ _⟩
    · have HV : Hid (kindV x (.slice p x.l.length c) = .iface 181 (.agg #[.slice p x.l.length c, .int .i64 (-1)])) := by
        unfold Hid kindV; simp [h5, hb]
      have HB := Lib.hid hb
      clear hb h0 h2 h4 h1 h3 h5
      go_enter Tryz.func161, Tryz.ntmps161
      go_wp2_with (go_at_call 198; refine (cK _ (alloc_below _ _) (box_cell _ _ _) _ _ _ _).mono ?_; rintro e w' ⟨rfl, rfl⟩; rw [HB.out])
      go_ret
      exact ⟨by rw [HV.out]; rfl, alloc_below _ _⟩
  by_cases h6 : x.k = 6
  · rw [h6] at hk
    cases hb : bareB x false false false false
    · have HV : Hid (kindV x (.slice p x.l.length c) = .nilIface) := by
        unfold Hid kindV; simp [h6, hb]
      have HB := Lib.hid hb
      clear hb h0 h2 h4 h1 h3 h5 h6
      go_enter Tryz.func161, Tryz.ntmps161
      go_wp2_with (go_at_call 198; refine (cK _ (alloc_below _ _) (box_cell _ _ _) _ _ _ _).mono ?_; rintro e w' ⟨rfl, rfl⟩; rw [HB.out])
      go_ret
      exact ⟨by rw [HV.out]; rfl, alloc_below _ _⟩
    · have HV : Hid (kindV x (.slice p x.l.length c) = .iface 181 (.agg #[.slice none 0 0, .int .i64 0])) := by
        unfold Hid kindV; simp [h6, hb]
      have HB := Lib.hid hb
      clear hb h0 h2 h4 h1 h3 h5 h6
      go_enter Tryz.func161, Tryz.ntmps161
      go_wp2_with (go_at_call 198; refine (cK _ (alloc_below _ _) (box_cell _ _ _) _ _ _ _).mono ?_; rintro e w' ⟨rfl, rfl⟩; rw [HB.out])
      go_ret
      exact ⟨by rw [HV.out]; rfl, alloc_below _ _⟩
  by_cases h7 : x.k = 7
  · rw [h7] at hk
    cases hb : bareB x false false false true
    · have HV : Hid (kindV x (.slice p x.l.length c) = .nilIface) := by
        unfold Hid kindV; simp [h7, hb]
      have HB := Lib.hid hb
      clear hb h0 h2 h4 h1 h3 h5 h6 h7
      go_enter Tryz.func161, Tryz.ntmps161
      go_wp2_with (go_at_call 198; refine (cK _ (alloc_below _ _) (box_cell _ _ _) _ _ _ _).mono ?_; rintro e w' ⟨rfl, rfl⟩; rw [HB.out])
      go_ret
      exact ⟨by rw [HV.out]; rfl, alloc_below _ _⟩
    · have HV : Hid (kindV x (.slice p x.l.length c) = .iface 181 (.agg #[.slice p x.l.length c, .int .i64 2])) := by
        unfold Hid kindV; simp [h7, hb]
      have HB := Lib.hid hb
      clear hb h0 h2 h4 h1 h3 h5 h6 h7
      go_enter Tryz.func161, Tryz.ntmps161
      go_wp2_with (go_at_call 198; refine (cK _ (alloc_below _ _) (box_cell _ _ _) _ _ _ _).mono ?_; rintro e w' ⟨rfl, rfl⟩; rw [HB.out])
      go_ret
      exact ⟨by rw [HV.out]; rfl, alloc_below _ _⟩
  have HV : Hid (kindV x (.slice p x.l.length c) = .nilIface) := by
    unfold Hid kindV; simp [h0, h1, h2, h3, h4, h5, h6, h7]
  have e0 : (x.k == 0) = false := by simpa using h0
  have e1 : (x.k == 1) = false := by simpa using h1
  have e2 : (x.k == 2) = false := by simpa using h2
  have e3 : (x.k == 3) = false := by simpa using h3
  have e4 : (x.k == 4) = false := by simpa using h4
  have e5 : (x.k == 5) = false := by simpa using h5
  have e6 : (x.k == 6) = false := by simpa using h6
  have e7 : (x.k == 7) = false := by simpa using h7
  clear h0 h1 h2 h3 h4 h5 h6 h7
  go_enter Tryz.func161, Tryz.ntmps161
  go_wp2
  go_ret
  exact ⟨by rw [HV.out]; rfl, alloc_below _ _⟩
end Go.Proofs.YtlhobpknflobgaaGreatDoor
