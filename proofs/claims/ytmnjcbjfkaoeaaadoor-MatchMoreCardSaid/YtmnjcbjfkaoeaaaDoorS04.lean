/-
  A term's node: may it be? pleach/term.one; pleachref03.bare, one. Conditions: the node lies as 'NodeAt' says; its fields are of their kinds.
  The reference's look at a term's node: pleachref03.bare, one. Conditions: as said.
-/
import Derived.Test.YtmnjcbjfkaoeaaaDoorS03
namespace Go.Proofs.YtmnjcbjfkaoeaaaDoor
open Go.RowKit

/-- May a node be, its parts not looked at? -/
def oneB (x : Tr) : Bool :=
  if x.k = 0 then bareB x true false false false && mayI x.n
  else if x.k = 2 ∨ x.k = 4 then bareB x true false false false && (decide (0 ≤ x.n) && decide (x.n ≤ 576460752303423487))
  else if x.k = 1 then bareB x false true false false && mayA x.s
  else if x.k = 3 then bareB x true true true false && (mayA x.s && mayA x.t && (decide (0 ≤ x.n) && decide (x.n ≤ 8)))
  else if x.k = 5 then bareB x false false false true
  else if x.k = 6 then bareB x false false false false
  else if x.k = 7 then bareB x false false false true && ((x.l.length : Int) == 2)
  else false

theorem wf_s {x : Tr} (h : NodeWf x) : x.s.size ≤ 140737488355328 := h.s
theorem wf_t {x : Tr} (h : NodeWf x) : x.t.size ≤ 140737488355328 := h.t

theorem box3 (w : World) (x y z : Value) (T : TypeId) : (w.alloc (.cells #[x, y, z] T)).cell? ⟨w.heap.size, 0, none⟩ = some x ∧ (w.alloc (.cells #[x, y, z] T)).cell? ⟨w.heap.size, 1, none⟩ = some y ∧ (w.alloc (.cells #[x, y, z] T)).cell? ⟨w.heap.size, 2, none⟩ = some z := by
  refine ⟨?_, ?_, ?_⟩ <;> (rw [World.cell?_alloc_at _ _ _ _ (by simp)]; rfl)

theorem as_number_number (v : Value) (w : World) : (Instr.typeAssert (.iface 97 v) 20 97 true).run Tryd.prog w = .ok (.tuple #[v, .bool true]) w := by kernel_rfl
theorem as_named_number (v : Value) (w : World) : (Instr.typeAssert (.iface 99 v) 20 97 true).run Tryd.prog w = .ok (.tuple #[.agg #[.int .i64 0], .bool false]) w := by kernel_rfl
theorem as_named_named (v : Value) (w : World) : (Instr.typeAssert (.iface 99 v) 20 99 true).run Tryd.prog w = .ok (.tuple #[v, .bool true]) w := by kernel_rfl
theorem as_atom_number (v : Value) (w : World) : (Instr.typeAssert (.iface 101 v) 20 97 true).run Tryd.prog w = .ok (.tuple #[.agg #[.int .i64 0], .bool false]) w := by kernel_rfl
theorem as_atom_named (v : Value) (w : World) : (Instr.typeAssert (.iface 101 v) 20 99 true).run Tryd.prog w = .ok (.tuple #[.agg #[.int .i64 0], .bool false]) w := by kernel_rfl
theorem as_atom_atom (v : Value) (w : World) : (Instr.typeAssert (.iface 101 v) 20 101 true).run Tryd.prog w = .ok (.tuple #[v, .bool true]) w := by kernel_rfl
theorem as_fun_number (v : Value) (w : World) : (Instr.typeAssert (.iface 103 v) 20 97 true).run Tryd.prog w = .ok (.tuple #[.agg #[.int .i64 0], .bool false]) w := by kernel_rfl
theorem as_fun_named (v : Value) (w : World) : (Instr.typeAssert (.iface 103 v) 20 99 true).run Tryd.prog w = .ok (.tuple #[.agg #[.int .i64 0], .bool false]) w := by kernel_rfl
theorem as_fun_atom (v : Value) (w : World) : (Instr.typeAssert (.iface 103 v) 20 101 true).run Tryd.prog w = .ok (.tuple #[.agg #[.string ⟨#[]⟩], .bool false]) w := by kernel_rfl
theorem as_fun_fun (v : Value) (w : World) : (Instr.typeAssert (.iface 103 v) 20 103 true).run Tryd.prog w = .ok (.tuple #[v, .bool true]) w := by kernel_rfl
theorem as_parts_number (v : Value) (w : World) : (Instr.typeAssert (.iface 105 v) 20 97 true).run Tryd.prog w = .ok (.tuple #[.agg #[.int .i64 0], .bool false]) w := by kernel_rfl
theorem as_parts_named (v : Value) (w : World) : (Instr.typeAssert (.iface 105 v) 20 99 true).run Tryd.prog w = .ok (.tuple #[.agg #[.int .i64 0], .bool false]) w := by kernel_rfl
theorem as_parts_atom (v : Value) (w : World) : (Instr.typeAssert (.iface 105 v) 20 101 true).run Tryd.prog w = .ok (.tuple #[.agg #[.string ⟨#[]⟩], .bool false]) w := by kernel_rfl
theorem as_parts_fun (v : Value) (w : World) : (Instr.typeAssert (.iface 105 v) 20 103 true).run Tryd.prog w = .ok (.tuple #[.agg #[.string ⟨#[]⟩, .string ⟨#[]⟩, .int .i64 0], .bool false]) w := by kernel_rfl
theorem as_parts_parts (v : Value) (w : World) : (Instr.typeAssert (.iface 105 v) 20 105 true).run Tryd.prog w = .ok (.tuple #[v, .bool true]) w := by kernel_rfl
theorem as_nil_number (w : World) : (Instr.typeAssert .nilIface 20 97 true).run Tryd.prog w = .ok (.tuple #[.agg #[.int .i64 0], .bool false]) w := by kernel_rfl
theorem as_nil_named (w : World) : (Instr.typeAssert .nilIface 20 99 true).run Tryd.prog w = .ok (.tuple #[.agg #[.int .i64 0], .bool false]) w := by kernel_rfl
theorem as_nil_atom (w : World) : (Instr.typeAssert .nilIface 20 101 true).run Tryd.prog w = .ok (.tuple #[.agg #[.string ⟨#[]⟩], .bool false]) w := by kernel_rfl
theorem as_nil_fun (w : World) : (Instr.typeAssert .nilIface 20 103 true).run Tryd.prog w = .ok (.tuple #[.agg #[.string ⟨#[]⟩, .string ⟨#[]⟩, .int .i64 0], .bool false]) w := by kernel_rfl
theorem as_nil_parts (w : World) : (Instr.typeAssert .nilIface 20 105 true).run Tryd.prog w = .ok (.tuple #[.agg #[.slice none 0 0, .int .i64 0], .bool false]) w := by kernel_rfl

set_option maxHeartbeats 1000000 in
set_option maxRecDepth 100000 in
theorem one_nil {w : World} {g o : Nat} (cK : Calls Tryd.prog 59 #[.pointer (some ⟨g, o, none⟩)] w fun e w' => e = .returned .nilIface ∧ Below w.heap.size w w') :
    Calls Tryd.prog 46 #[.pointer (some ⟨g, o, none⟩)] w fun e w' => e = .returned (.bool false) ∧ Below w.heap.size w w' := by
  have as_number := as_nil_number
  have as_named := as_nil_named
  have as_atom := as_nil_atom
  have as_fun := as_nil_fun
  have as_parts := as_nil_parts
  go_enter Tryd.func46, Tryd.ntmps46
  go_wp2_with (go_at_call 59; refine cK.mono ?_; rintro e w1 ⟨rfl, hb1⟩)
  go_ret
  refine ⟨rfl, ?_⟩
  exact hb1

set_option maxHeartbeats 1000000 in
set_option maxRecDepth 100000 in
theorem one_number {w : World} {g o : Nat} {n : Int} (cK : Calls Tryd.prog 59 #[.pointer (some ⟨g, o, none⟩)] w fun e w' => e = .returned (.iface 97 (.agg #[.int .i64 n])) ∧ Below w.heap.size w w') :
    Calls Tryd.prog 46 #[.pointer (some ⟨g, o, none⟩)] w fun e w' => e = .returned (.bool (mayI n)) ∧ Below w.heap.size w w' := by
  have as_number := as_number_number
  go_enter Tryd.func46, Tryd.ntmps46
  go_wp2_with (first | (go_at_call 59; refine cK.mono ?_; rintro e w1 ⟨rfl, hb1⟩) | (go_at_call 60; refine (intsMay_any _ _).mono ?_; rintro e w' ⟨rfl, rfl⟩))
  go_ret
  exact ⟨rfl, hb1.alloc hb1.size _⟩

set_option maxHeartbeats 1000000 in
set_option maxRecDepth 100000 in
theorem one_named {w : World} {g o : Nat} {n : Int} (cK : Calls Tryd.prog 59 #[.pointer (some ⟨g, o, none⟩)] w fun e w' => e = .returned (.iface 99 (.agg #[.int .i64 n])) ∧ Below w.heap.size w w') :
    Calls Tryd.prog 46 #[.pointer (some ⟨g, o, none⟩)] w fun e w' => e = .returned (.bool (decide (0 ≤ n) && decide (n ≤ 576460752303423487))) ∧ Below w.heap.size w w' := by
  have as_number := as_named_number
  have as_named := as_named_named
  by_cases h0 : 0 ≤ n
  · go_enter Tryd.func46, Tryd.ntmps46
    go_wp2_with (first | (go_at_call 59; refine cK.mono ?_; rintro e w1 ⟨rfl, hb1⟩))
    go_ret
    exact ⟨ret_bool (by rw [decide_eq_true h0]; rfl), hb1.alloc hb1.size _⟩
  · go_enter Tryd.func46, Tryd.ntmps46
    go_wp2_with (first | (go_at_call 59; refine cK.mono ?_; rintro e w1 ⟨rfl, hb1⟩))
    go_ret
    exact ⟨ret_bool (by rw [Bool.eq_iff_iff]; simp; omega), hb1.alloc hb1.size _⟩

set_option maxHeartbeats 1000000 in
set_option maxRecDepth 100000 in
theorem one_atom {w : World} {g o : Nat} {s : ByteArray} (hL : Letters w) (hS : s.size ≤ 140737488355328) (cK : Calls Tryd.prog 59 #[.pointer (some ⟨g, o, none⟩)] w fun e w' => e = .returned (.iface 101 (.agg #[.string s])) ∧ Below w.heap.size w w') :
    Calls Tryd.prog 46 #[.pointer (some ⟨g, o, none⟩)] w fun e w' => e = .returned (.bool (mayA s)) ∧ Below w.heap.size w w' := by
  have as_number := as_atom_number
  have as_named := as_atom_named
  have as_atom := as_atom_atom
  go_enter Tryd.func46, Tryd.ntmps46
  go_wp2_with (first | (go_at_call 59; refine cK.mono ?_; rintro e w1 ⟨rfl, hb1⟩; have hBz := hb1.alloc hb1.size (.cells #[.string s] 101); have hL1 := hL.under hBz) | (go_at_call 61; refine (mayA_any hL1 _ hS).mono ?_; rintro e w2 ⟨rfl, hb2⟩))
  go_ret
  exact ⟨rfl, hBz.trans (hb2.mono hBz.size)⟩

set_option maxHeartbeats 1000000 in
set_option maxRecDepth 100000 in
theorem one_fun {w : World} {g o : Nat} {s t : ByteArray} {n : Int} (hL : Letters w) (hS : s.size ≤ 140737488355328) (hT : t.size ≤ 140737488355328) (cK : Calls Tryd.prog 59 #[.pointer (some ⟨g, o, none⟩)] w fun e w' => e = .returned (.iface 103 (.agg #[.string s, .string t, .int .i64 n])) ∧ Below w.heap.size w w') :
    Calls Tryd.prog 46 #[.pointer (some ⟨g, o, none⟩)] w fun e w' => e = .returned (.bool (mayA s && mayA t && (decide (0 ≤ n) && decide (n ≤ 8)))) ∧ Below w.heap.size w w' := by
  have as_number := as_fun_number
  have as_named := as_fun_named
  have as_atom := as_fun_atom
  have as_fun := as_fun_fun
  have cM := fun (W : World) (u : ByteArray) (hb : Below w.heap.size w W) (hu : u = s ∨ u = t) => mayA_any (hL.under hb) u (by rcases hu with rfl | rfl <;> assumption)
  clear hL
  cases hs : mayA s
  · have HS := Lib.hid hs
    clear hs
    go_enter Tryd.func46, Tryd.ntmps46
    go_wp2_with (first | (go_at_call 59; refine cK.mono ?_; rintro e w1 ⟨rfl, hb1⟩; have hBz := hb1.alloc hb1.size (.cells #[.string s, .string t, .int .i64 n] 103); have hb2c := Below.refl (w1.heap.size + 1) (w1.alloc (.cells #[.string s, .string t, .int .i64 n] 103)); have q1 : (w1.alloc (.cells #[.string s, .string t, .int .i64 n] 103)).cell? ⟨w1.heap.size, 1, none⟩ = some (.string t) := (box3 _ _ _ _ _).2.1; have q2 : (w1.alloc (.cells #[.string s, .string t, .int .i64 n] 103)).cell? ⟨w1.heap.size, 2, none⟩ = some (.int .i64 n) := (box3 _ _ _ _ _).2.2) | (go_at_call 61; refine (cM _ _ hBz (by first | exact .inl rfl | exact .inr rfl)).mono ?_; rintro e w2 ⟨rfl, hb2⟩; have hBz := hBz.trans (hb2.mono hBz.size); have q1 := (hb2.cell (p := ⟨w1.heap.size, 1, none⟩) (cell_block q1)).trans q1; have q2 := (hb2.cell (p := ⟨w1.heap.size, 2, none⟩) (cell_block q2)).trans q2; rw [HS.out]))
    go_ret
    exact ⟨rfl, hBz⟩
  · have HS := Lib.hid hs
    clear hs
    cases ht : mayA t
    · have HT := Lib.hid ht
      clear ht
      go_enter Tryd.func46, Tryd.ntmps46
      go_wp2_with (first | (go_at_call 59; refine cK.mono ?_; rintro e w1 ⟨rfl, hb1⟩; have hBz := hb1.alloc hb1.size (.cells #[.string s, .string t, .int .i64 n] 103); have hb2c := Below.refl (w1.heap.size + 1) (w1.alloc (.cells #[.string s, .string t, .int .i64 n] 103)); have q1 : (w1.alloc (.cells #[.string s, .string t, .int .i64 n] 103)).cell? ⟨w1.heap.size, 1, none⟩ = some (.string t) := (box3 _ _ _ _ _).2.1; have q2 : (w1.alloc (.cells #[.string s, .string t, .int .i64 n] 103)).cell? ⟨w1.heap.size, 2, none⟩ = some (.int .i64 n) := (box3 _ _ _ _ _).2.2) | (go_at_call 61; refine (cM _ _ hBz (by first | exact .inl rfl | exact .inr rfl)).mono ?_; rintro e w2 ⟨rfl, hb2⟩; have hBz := hBz.trans (hb2.mono hBz.size); have q1 := (hb2.cell (p := ⟨w1.heap.size, 1, none⟩) (cell_block q1)).trans q1; have q2 := (hb2.cell (p := ⟨w1.heap.size, 2, none⟩) (cell_block q2)).trans q2; first | rw [HS.out] | rw [HT.out]))
      go_ret
      exact ⟨rfl, hBz⟩
    · have HT := Lib.hid ht
      clear ht
      by_cases h0 : 0 ≤ n
      · go_enter Tryd.func46, Tryd.ntmps46
        go_wp2_with (first | (go_at_call 59; refine cK.mono ?_; rintro e w1 ⟨rfl, hb1⟩; have hBz := hb1.alloc hb1.size (.cells #[.string s, .string t, .int .i64 n] 103); have hb2c := Below.refl (w1.heap.size + 1) (w1.alloc (.cells #[.string s, .string t, .int .i64 n] 103)); have q1 : (w1.alloc (.cells #[.string s, .string t, .int .i64 n] 103)).cell? ⟨w1.heap.size, 1, none⟩ = some (.string t) := (box3 _ _ _ _ _).2.1; have q2 : (w1.alloc (.cells #[.string s, .string t, .int .i64 n] 103)).cell? ⟨w1.heap.size, 2, none⟩ = some (.int .i64 n) := (box3 _ _ _ _ _).2.2) | (go_at_call 61; refine (cM _ _ hBz (by first | exact .inl rfl | exact .inr rfl)).mono ?_; rintro e w2 ⟨rfl, hb2⟩; have hBz := hBz.trans (hb2.mono hBz.size); have q1 := (hb2.cell (p := ⟨w1.heap.size, 1, none⟩) (cell_block q1)).trans q1; have q2 := (hb2.cell (p := ⟨w1.heap.size, 2, none⟩) (cell_block q2)).trans q2; first | rw [HS.out] | rw [HT.out]))
        go_ret
        exact ⟨ret_bool (by rw [decide_eq_true h0]; rfl), hBz⟩
      · go_enter Tryd.func46, Tryd.ntmps46
        go_wp2_with (first | (go_at_call 59; refine cK.mono ?_; rintro e w1 ⟨rfl, hb1⟩; have hBz := hb1.alloc hb1.size (.cells #[.string s, .string t, .int .i64 n] 103); have hb2c := Below.refl (w1.heap.size + 1) (w1.alloc (.cells #[.string s, .string t, .int .i64 n] 103)); have q1 : (w1.alloc (.cells #[.string s, .string t, .int .i64 n] 103)).cell? ⟨w1.heap.size, 1, none⟩ = some (.string t) := (box3 _ _ _ _ _).2.1; have q2 : (w1.alloc (.cells #[.string s, .string t, .int .i64 n] 103)).cell? ⟨w1.heap.size, 2, none⟩ = some (.int .i64 n) := (box3 _ _ _ _ _).2.2) | (go_at_call 61; refine (cM _ _ hBz (by first | exact .inl rfl | exact .inr rfl)).mono ?_; rintro e w2 ⟨rfl, hb2⟩; have hBz := hBz.trans (hb2.mono hBz.size); have q1 := (hb2.cell (p := ⟨w1.heap.size, 1, none⟩) (cell_block q1)).trans q1; have q2 := (hb2.cell (p := ⟨w1.heap.size, 2, none⟩) (cell_block q2)).trans q2; first | rw [HS.out] | rw [HT.out]))
        go_ret
        exact ⟨ret_bool (by rw [Bool.eq_iff_iff]; simp; omega), hBz⟩

set_option maxHeartbeats 1000000 in
set_option maxRecDepth 100000 in
theorem one_parts {w : World} {g o : Nat} {p : Option Addr} {n c : Nat} {m : Int} (_hn : n ≤ 2199023255552) (cK : Calls Tryd.prog 59 #[.pointer (some ⟨g, o, none⟩)] w fun e w' => e = .returned (.iface 105 (.agg #[.slice p n c, .int .i64 m])) ∧ Below w.heap.size w w') :
    Calls Tryd.prog 46 #[.pointer (some ⟨g, o, none⟩)] w fun e w' => e = .returned (.bool (decide (m < 0) || (n : Int) == m)) ∧ Below w.heap.size w w' := by
  have as_number := as_parts_number
  have as_named := as_parts_named
  have as_atom := as_parts_atom
  have as_fun := as_parts_fun
  have as_parts := as_parts_parts
  by_cases h0 : m < 0
  · go_enter Tryd.func46, Tryd.ntmps46
    go_wp2_with (first | (go_at_call 59; refine cK.mono ?_; rintro e w1 ⟨rfl, hb1⟩))
    go_ret
    exact ⟨ret_bool (by rw [decide_eq_true h0, Bool.true_or]), hb1.alloc hb1.size _⟩
  · go_enter Tryd.func46, Tryd.ntmps46
    go_wp2_with (first | (go_at_call 59; refine cK.mono ?_; rintro e w1 ⟨rfl, hb1⟩))
    go_ret
    exact ⟨ret_bool (by rw [Bool.eq_iff_iff]), hb1.alloc hb1.size _⟩

theorem one_any {w : World} (hL : Letters w) {g o : Nat} {x : Tr} {p : Option Addr} {c : Nat} (h : NodeAt w g o x (.slice p x.l.length c)) (hw : NodeWf x) (hlen : x.l.length ≤ 2199023255552) :
    Calls Tryd.prog 46 #[.pointer (some ⟨g, o, none⟩)] w fun e w' => e = .returned (.bool (oneB x)) ∧ Below w.heap.size w w' := by
  have cK := kind_any h
  have hS := wf_s hw
  have hT := wf_t hw
  unfold kindV at cK
  unfold oneB
  by_cases h0 : x.k = 0
  · rw [if_pos h0] at cK ⊢
    cases hb : bareB x true false false false <;> rw [hb] at cK
    · exact one_nil cK
    · exact one_number cK
  rw [if_neg h0] at cK ⊢
  by_cases h2 : x.k = 2 ∨ x.k = 4
  · rw [if_pos h2] at cK ⊢
    cases hb : bareB x true false false false <;> rw [hb] at cK
    · exact one_nil cK
    · exact one_named cK
  rw [if_neg h2] at cK ⊢
  by_cases h1 : x.k = 1
  · rw [if_pos h1] at cK ⊢
    cases hb : bareB x false true false false <;> rw [hb] at cK
    · exact one_nil cK
    · exact one_atom hL hS cK
  rw [if_neg h1] at cK ⊢
  by_cases h3 : x.k = 3
  · rw [if_pos h3] at cK ⊢
    cases hb : bareB x true true true false <;> rw [hb] at cK
    · exact one_nil cK
    · exact one_fun hL hS hT cK
  rw [if_neg h3] at cK ⊢
  by_cases h5 : x.k = 5
  · rw [if_pos h5] at cK ⊢
    cases hb : bareB x false false false true <;> rw [hb] at cK
    · exact one_nil cK
    · exact one_parts hlen cK
  rw [if_neg h5] at cK ⊢
  by_cases h6 : x.k = 6
  · rw [if_pos h6] at cK ⊢
    cases hb : bareB x false false false false <;> rw [hb] at cK
    · exact one_nil cK
    · exact one_parts (n := 0) (Nat.zero_le _) cK
  rw [if_neg h6] at cK ⊢
  by_cases h7 : x.k = 7
  · rw [if_pos h7] at cK ⊢
    cases hb : bareB x false false false true <;> rw [hb] at cK
    · exact one_nil cK
    · exact one_parts hlen cK
  rw [if_neg h7] at cK ⊢
  exact one_nil cK
end Go.Proofs.YtmnjcbjfkaoeaaaDoor
namespace Go.Proofs.YtmnjcbjfkaoeaaaDoor
open Go.RowKit

theorem box5 (w : World) (a b c d e : Value) (T : TypeId) : (w.alloc (.cells #[a, b, c, d, e] T)).cell? ⟨w.heap.size, 0, none⟩ = some a ∧ (w.alloc (.cells #[a, b, c, d, e] T)).cell? ⟨w.heap.size, 1, none⟩ = some b ∧ (w.alloc (.cells #[a, b, c, d, e] T)).cell? ⟨w.heap.size, 2, none⟩ = some c ∧
    (w.alloc (.cells #[a, b, c, d, e] T)).cell? ⟨w.heap.size, 3, none⟩ = some d ∧ (w.alloc (.cells #[a, b, c, d, e] T)).cell? ⟨w.heap.size, 4, none⟩ = some e := by
  refine ⟨?_, ?_, ?_, ?_, ?_⟩ <;> (rw [World.cell?_alloc_at _ _ _ _ (by simp)]; rfl)

end Go.Proofs.YtmnjcbjfkaoeaaaDoor
