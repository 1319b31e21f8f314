/-
  A term's node: may it be? pleach/term.one; pleachref03.bare, one. Conditions: the node lies as 'NodeAt' says; its fields are of their kinds.
  The reference's look at a term's node: pleachref03.bare, one. Conditions: as said.
-/
import Derived.Test.YtlhobpknflobgaaGreatDoorS03
namespace Go.Proofs.YtlhobpknflobgaaGreatDoor
open Go.RowKit

/-- May a node be, its parts not looked at? -/
def oneB (x : Tr) : Bool :=
  if x.k = 0 then bareB x true false false false && mayI x.n
  else if x.k = 2 ∨ x.k = 4 then bareB x true false false false && (decide (0 ≤ x.n) && decide (x.n ≤ 576460752303423487))
  else if x.k = 1 then bareB x false true false false && mayA x.s
  else if x.k = 3 then bareB x true true true false && (mayA x.s && mayA x.t && (decide (0 ≤ x.n) && decide (x.n ≤ 8)))
  else if x.k = 5 then bareB x false false false true
  else if x.k = 6 then bareB x false false false false
  else if x.k = 7 then bareB x false false false true && ((x.l.length : Int) == 2)
  else false

theorem wf_s {x : Tr} (h : NodeWf x) : x.s.size ≤ 140737488355328 := h.s
theorem wf_t {x : Tr} (h : NodeWf x) : x.t.size ≤ 140737488355328 := h.t

theorem box3 (w : World) (x y z : Value) (T : TypeId) : (w.alloc (.cells #[x, y, z] T)).cell? ⟨w.heap.size, 0, none⟩ = some x ∧ (w.alloc (.cells #[x, y, z] T)).cell? ⟨w.heap.size, 1, none⟩ = some y ∧ (w.alloc (.cells #[x, y, z] T)).cell? ⟨w.heap.size, 2, none⟩ = some z := by
  refine ⟨?_, ?_, ?_⟩ <;> (rw [World.cell?_alloc_at _ _ _ _ (by simp)]; rfl)

theorem as_number_number (v : Value) (w : World) : (Instr.typeAssert (.iface 174 v) 20 174 true).run Tryz.prog w = .ok (.tuple #[v, .bool true]) w := by kernel_rfl
theorem as_named_number (v : Value) (w : World) : (Instr.typeAssert (.iface 175 v) 20 174 true).run Tryz.prog w = .ok (.tuple #[.agg #[.int .i64 0], .bool false]) w := by kernel_rfl
theorem as_named_named (v : Value) (w : World) : (Instr.typeAssert (.iface 175 v) 20 175 true).run Tryz.prog w = .ok (.tuple #[v, .bool true]) w := by kernel_rfl
theorem as_atom_number (v : Value) (w : World) : (Instr.typeAssert (.iface 177 v) 20 174 true).run Tryz.prog w = .ok (.tuple #[.agg #[.int .i64 0], .bool false]) w := by kernel_rfl
theorem as_atom_named (v : Value) (w : World) : (Instr.typeAssert (.iface 177 v) 20 175 true).run Tryz.prog w = .ok (.tuple #[.agg #[.int .i64 0], .bool false]) w := by kernel_rfl
theorem as_atom_atom (v : Value) (w : World) : (Instr.typeAssert (.iface 177 v) 20 177 true).run Tryz.prog w = .ok (.tuple #[v, .bool true]) w := by kernel_rfl
theorem as_fun_number (v : Value) (w : World) : (Instr.typeAssert (.iface 179 v) 20 174 true).run Tryz.prog w = .ok (.tuple #[.agg #[.int .i64 0], .bool false]) w := by kernel_rfl
theorem as_fun_named (v : Value) (w : World) : (Instr.typeAssert (.iface 179 v) 20 175 true).run Tryz.prog w = .ok (.tuple #[.agg #[.int .i64 0], .bool false]) w := by kernel_rfl
theorem as_fun_atom (v : Value) (w : World) : (Instr.typeAssert (.iface 179 v) 20 177 true).run Tryz.prog w = .ok (.tuple #[.agg #[.string ⟨#[]⟩], .bool false]) w := by kernel_rfl
theorem as_fun_fun (v : Value) (w : World) : (Instr.typeAssert (.iface 179 v) 20 179 true).run Tryz.prog w = .ok (.tuple #[v, .bool true]) w := by kernel_rfl
theorem as_parts_number (v : Value) (w : World) : (Instr.typeAssert (.iface 181 v) 20 174 true).run Tryz.prog w = .ok (.tuple #[.agg #[.int .i64 0], .bool false]) w := by kernel_rfl
theorem as_parts_named (v : Value) (w : World) : (Instr.typeAssert (.iface 181 v) 20 175 true).run Tryz.prog w = .ok (.tuple #[.agg #[.int .i64 0], .bool false]) w := by kernel_rfl
theorem as_parts_atom (v : Value) (w : World) : (Instr.typeAssert (.iface 181 v) 20 177 true).run Tryz.prog w = .ok (.tuple #[.agg #[.string ⟨#[]⟩], .bool false]) w := by kernel_rfl
theorem as_parts_fun (v : Value) (w : World) : (Instr.typeAssert (.iface 181 v) 20 179 true).run Tryz.prog w = .ok (.tuple #[.agg #[.string ⟨#[]⟩, .string ⟨#[]⟩, .int .i64 0], .bool false]) w := by kernel_rfl
theorem as_parts_parts (v : Value) (w : World) : (Instr.typeAssert (.iface 181 v) 20 181 true).run Tryz.prog w = .ok (.tuple #[v, .bool true]) w := by kernel_rfl
theorem as_nil_number (w : World) : (Instr.typeAssert .nilIface 20 174 true).run Tryz.prog w = .ok (.tuple #[.agg #[.int .i64 0], .bool false]) w := by kernel_rfl
theorem as_nil_named (w : World) : (Instr.typeAssert .nilIface 20 175 true).run Tryz.prog w = .ok (.tuple #[.agg #[.int .i64 0], .bool false]) w := by kernel_rfl
theorem as_nil_atom (w : World) : (Instr.typeAssert .nilIface 20 177 true).run Tryz.prog w = .ok (.tuple #[.agg #[.string ⟨#[]⟩], .bool false]) w := by kernel_rfl
theorem as_nil_fun (w : World) : (Instr.typeAssert .nilIface 20 179 true).run Tryz.prog w = .ok (.tuple #[.agg #[.string ⟨#[]⟩, .string ⟨#[]⟩, .int .i64 0], .bool false]) w := by kernel_rfl
theorem as_nil_parts (w : World) : (Instr.typeAssert .nilIface 20 181 true).run Tryz.prog w = .ok (.tuple #[.agg #[.slice none 0 0, .int .i64 0], .bool false]) w := by kernel_rfl

set_option maxHeartbeats 1000000 in
set_option maxRecDepth 100000 in
theorem one_nil {w : World} {g o : Nat} (cK : Calls Tryz.prog 161 #[.pointer (some ⟨g, o, none⟩)] w fun e w' => e = .returned .nilIface ∧ Below w.heap.size w w') :
    Calls Tryz.prog 125 #[.pointer (some ⟨g, o, none⟩)] w fun e w' => e = .returned (.bool false) ∧ Below w.heap.size w w' := by
  have as_number := as_nil_number
  have as_named := as_nil_named
  have as_atom := as_nil_atom
  have as_fun := as_nil_fun
  have as_parts := as_nil_parts
  go_enter Tryz.func125, Tryz.ntmps125
  go_wp2_with (go_at_call 161; refine cK.mono ?_; rintro e w1 ⟨rfl, hb1⟩)
  go_ret
  refine ⟨rfl, ?_⟩
  exact hb1

set_option maxHeartbeats 1000000 in
set_option maxRecDepth 100000 in
theorem one_number {w : World} {g o : Nat} {n : Int} (cK : Calls Tryz.prog 161 #[.pointer (some ⟨g, o, none⟩)] w fun e w' => e = .returned (.iface 174 (.agg #[.int .i64 n])) ∧ Below w.heap.size w w') :
    Calls Tryz.prog 125 #[.pointer (some ⟨g, o, none⟩)] w fun e w' => e = .returned (.bool (mayI n)) ∧ Below w.heap.size w w' := by
  have as_number := as_number_number
  go_enter Tryz.func125, Tryz.ntmps125
  go_wp2_with (first | (go_at_call 161; refine cK.mono ?_; rintro e w1 ⟨rfl, hb1⟩) | (go_at_call 154; refine (intsMay_any _ _).mono ?_; rintro e w' ⟨rfl, rfl⟩))
  go_ret
  exact ⟨rfl, hb1.alloc hb1.size _⟩

set_option maxHeartbeats 1000000 in
set_option maxRecDepth 100000 in
theorem one_named {w : World} {g o : Nat} {n : Int} (cK : Calls Tryz.prog 161 #[.pointer (some ⟨g, o, none⟩)] w fun e w' => e = .returned (.iface 175 (.agg #[.int .i64 n])) ∧ Below w.heap.size w w') :
    Calls Tryz.prog 125 #[.pointer (some ⟨g, o, none⟩)] w fun e w' => e = .returned (.bool (decide (0 ≤ n) && decide (n ≤ 576460752303423487))) ∧ Below w.heap.size w w' := by
  have as_number := as_named_number
  have as_named := as_named_named
  by_cases h0 : 0 ≤ n
  · go_enter Tryz.func125, Tryz.ntmps125
    go_wp2_with (first | (go_at_call 161; refine cK.mono ?_; rintro e w1 ⟨rfl, hb1⟩))
    go_ret
    exact ⟨ret_bool (by rw [decide_eq_true h0]; rfl), hb1.alloc hb1.size _⟩
  · go_enter Tryz.func125, Tryz.ntmps125
    go_wp2_with (first | (go_at_call 161; refine cK.mono ?_; rintro e w1 ⟨rfl, hb1⟩))
    go_ret
    exact ⟨ret_bool (by rw [Bool.eq_iff_iff]; simp; omega), hb1.alloc hb1.size _⟩

set_option maxHeartbeats 1000000 in
set_option maxRecDepth 100000 in
theorem one_atom {w : World} {g o : Nat} {s : ByteArray} (hL : Letters w) (hS : s.size ≤ 140737488355328) (cK : Calls Tryz.prog 161 #[.pointer (some ⟨g, o, none⟩)] w fun e w' => e = .returned (.iface 177 (.agg #[.string s])) ∧ Below w.heap.size w w') :
    Calls Tryz.prog 125 #[.pointer (some ⟨g, o, none⟩)] w fun e w' => e = .returned (.bool (mayA s)) ∧ Below w.heap.size w w' := by
  have as_number := as_atom_number
  have as_named := as_atom_named
  have as_atom := as_atom_atom
  go_enter Tryz.func125, Tryz.ntmps125
  go_wp2_with (first | (go_at_call 161; refine cK.mono ?_; rintro e w1 ⟨rfl, hb1⟩; have hBz := hb1.alloc hb1.size (.cells #[.string s] 177); have hL1 := hL.under hBz) | (go_at_call 162; refine (mayA_any hL1 _ hS).mono ?_; rintro e w2 ⟨rfl, hb2⟩))
  go_ret
  exact ⟨rfl, hBz.trans (hb2.mono hBz.size)⟩

set_option maxHeartbeats 1000000 in
set_option maxRecDepth 100000 in
theorem one_fun {w : World} {g o : Nat} {s t : ByteArray} {n : Int} (hL : Letters w) (hS : s.size ≤ 140737488355328) (hT : t.size ≤ 140737488355328) (cK : Calls Tryz.prog 161 #[.pointer (some ⟨g, o, none⟩)] w fun e w' => e = .returned (.iface 179 (.agg #[.string s, .string t, .int .i64 n])) ∧ Below w.heap.size w w') :
    Calls Tryz.prog 125 #[.pointer (some ⟨g, o, none⟩)] w fun e w' => e = .returned (.bool (mayA s && mayA t && (decide (0 ≤ n) && decide (n ≤ 8)))) ∧ Below w.heap.size w w' := by
  have as_number := as_fun_number
  have as_named := as_fun_named
  have as_atom := as_fun_atom
  have as_fun := as_fun_fun
  have cM := fun (W : World) (u : ByteArray) (hb : Below w.heap.size w W) (hu : u = s ∨ u = t) => mayA_any (hL.under hb) u (by rcases hu with rfl | rfl <;> assumption)
  clear hL
  cases hs : mayA s
  · have HS := Lib.hid hs
    clear hs
    go_enter Tryz.func125, Tryz.ntmps125
    go_wp2_with (first | (go_at_call 161; refine cK.mono ?_; rintro e w1 ⟨rfl, hb1⟩; have hBz := hb1.alloc hb1.size (.cells #[.string s, .string t, .int .i64 n] 179); have hb2c := Below.refl (w1.heap.size + 1) (w1.alloc (.cells #[.string s, .string t, .int .i64 n] 179)); have q1 : (w1.alloc (.cells #[.string s, .string t, .int .i64 n] 179)).cell? ⟨w1.heap.size, 1, none⟩ = some (.string t) := (box3 _ _ _ _ _).2.1; have q2 : (w1.alloc (.cells #[.string s, .string t, .int .i64 n] 179)).cell? ⟨w1.heap.size, 2, none⟩ = some (.int .i64 n) := (box3 _ _ _ _ _).2.2) | (go_at_call 162; refine (cM _ _ hBz (by first | exact .inl rfl | exact .inr rfl)).mono ?_; rintro e w2 ⟨rfl, hb2⟩; have hBz := hBz.trans (hb2.mono hBz.size); have q1 := (hb2.cell (p := ⟨w1.heap.size, 1, none⟩) (cell_block q1)).trans q1; have q2 := (hb2.cell (p := ⟨w1.heap.size, 2, none⟩) (cell_block q2)).trans q2; rw [HS.out]))
    go_ret
    exact ⟨rfl, hBz⟩
  · have HS := Lib.hid hs
    clear hs
    cases ht : mayA t
    · have HT := Lib.hid ht
      clear ht
      go_enter Tryz.func125, Tryz.ntmps125
      go_wp2_with (first | (go_at_call 161; refine cK.mono ?_; rintro e w1 ⟨rfl, hb1⟩; have hBz := hb1.alloc hb1.size (.cells #[.string s, .string t, .int .i64 n] 179); have hb2c := Below.refl (w1.heap.size + 1) (w1.alloc (.cells #[.string s, .string t, .int .i64 n] 179)); have q1 : (w1.alloc (.cells #[.string s, .string t, .int .i64 n] 179)).cell? ⟨w1.heap.size, 1, none⟩ = some (.string t) := (box3 _ _ _ _ _).2.1; have q2 : (w1.alloc (.cells #[.string s, .string t, .int .i64 n] 179)).cell? ⟨w1.heap.size, 2, none⟩ = some (.int .i64 n) := (box3 _ _ _ _ _).2.2) | (go_at_call 162; refine (cM _ _ hBz (by first | exact .inl rfl | exact .inr rfl)).mono ?_; rintro e w2 ⟨rfl, hb2⟩; have hBz := hBz.trans (hb2.mono hBz.size); have q1 := (hb2.cell (p := ⟨w1.heap.size, 1, none⟩) (cell_block q1)).trans q1; have q2 := (hb2.cell (p := ⟨w1.heap.size, 2, none⟩) (cell_block q2)).trans q2; first | rw [HS.out] | rw [HT.out]))
      go_ret
      exact ⟨rfl, hBz⟩
    · have HT := Lib.hid ht
      clear ht
      by_cases h0 : 0 ≤ n
      · go_enter Tryz.func125, Tryz.ntmps125
        go_wp2_with (first | (go_at_call 161; refine cK.mono ?_; rintro e w1 ⟨rfl, hb1⟩; have hBz := hb1.alloc hb1.size (.cells #[.string s, .string t, .int .i64 n] 179); have hb2c := Below.refl (w1.heap.size + 1) (w1.alloc (.cells #[.string s, .string t, .int .i64 n] 179)); have q1 : (w1.alloc (.cells #[.string s, .string t, .int .i64 n] 179)).cell? ⟨w1.heap.size, 1, none⟩ = some (.string t) := (box3 _ _ _ _ _).2.1; have q2 : (w1.alloc (.cells #[.string s, .string t, .int .i64 n] 179)).cell? ⟨w1.heap.size, 2, none⟩ = some (.int .i64 n) := (box3 _ _ _ _ _).2.2) | (go_at_call 162; refine (cM _ _ hBz (by first | exact .inl rfl | exact .inr rfl)).mono ?_; rintro e w2 ⟨rfl, hb2⟩; have hBz := hBz.trans (hb2.mono hBz.size); have q1 := (hb2.cell (p := ⟨w1.heap.size, 1, none⟩) (cell_block q1)).trans q1; have q2 := (hb2.cell (p := ⟨w1.heap.size, 2, none⟩) (cell_block q2)).trans q2; first | rw [HS.out] | rw [HT.out]))
        go_ret
        exact ⟨ret_bool (by rw [decide_eq_true h0]; rfl), hBz⟩
      · go_enter Tryz.func125, Tryz.ntmps125
        go_wp2_with (first | (go_at_call 161; refine cK.mono ?_; rintro e w1 ⟨rfl, hb1⟩; have hBz := hb1.alloc hb1.size (.cells #[.string s, .string t, .int .i64 n] 179); have hb2c := Below.refl (w1.heap.size + 1) (w1.alloc (.cells #[.string s, .string t, .int .i64 n] 179)); have q1 : (w1.alloc (.cells #[.string s, .string t, .int .i64 n] 179)).cell? ⟨w1.heap.size, 1, none⟩ = some (.string t) := (box3 _ _ _ _ _).2.1; have q2 : (w1.alloc (.cells #[.string s, .string t, .int .i64 n] 179)).cell? ⟨w1.heap.size, 2, none⟩ = some (.int .i64 n) := (box3 _ _ _ _ _).2.2) | (go_at_call 162; refine (cM _ _ hBz (by first | exact .inl rfl | exact .inr rfl)).mono ?_; rintro e w2 ⟨rfl, hb2⟩; have hBz := hBz.trans (hb2.mono hBz.size); have q1 := (hb2.cell (p := ⟨w1.heap.size, 1, none⟩) (cell_block q1)).trans q1; have q2 := (hb2.cell (p := ⟨w1.heap.size, 2, none⟩) (cell_block q2)).trans q2; first | rw [HS.out] | rw [HT.out]))
        go_ret
        exact ⟨ret_bool (by rw [Bool.eq_iff_iff]; simp; omega), hBz⟩

set_option maxHeartbeats 1000000 in
set_option maxRecDepth 100000 in
theorem one_parts {w : World} {g o : Nat} {p : Option Addr} {n c : Nat} {m : Int} (_hn : n ≤ 2199023255552) (cK : Calls Tryz.prog 161 #[.pointer (some ⟨g, o, none⟩)] w fun e w' => e = .returned (.iface 181 (.agg #[.slice p n c, .int .i64 m])) ∧ Below w.heap.size w w') :
    Calls Tryz.prog 125 #[.pointer (some ⟨g, o, none⟩)] w fun e w' => e = .returned (.bool (decide (m < 0) || (n : Int) == m)) ∧ Below w.heap.size w w' := by
  have as_number := as_parts_number
  have as_named := as_parts_named
  have as_atom := as_parts_atom
  have as_fun := as_parts_fun
  have as_parts := as_parts_parts
  by_cases h0 : m < 0
  · go_enter Tryz.func125, Tryz.ntmps125
    go_wp2_with (first | (go_at_call 161; refine cK.mono ?_; rintro e w1 ⟨rfl, hb1⟩))
    go_ret
    exact ⟨ret_bool (by rw [decide_eq_true h0, Bool.true_or]), hb1.alloc hb1.size _⟩
  · go_enter Tryz.func125, Tryz.ntmps125
    go_wp2_with (first | (go_at_call 161; refine cK.mono ?_; rintro e w1 ⟨rfl, hb1⟩))
    go_ret
    exact ⟨ret_bool (by rw [Bool.eq_iff_iff]), hb1.alloc hb1.size _⟩

theorem one_any {w : World} (hL : Letters w) {g o : Nat} {x : Tr} {p : Option Addr} {c : Nat} (h : NodeAt w g o x (.slice p x.l.length c)) (hw : NodeWf x) (hlen : x.l.length ≤ 2199023255552) :
    Calls Tryz.prog 125 #[.pointer (some ⟨g, o, none⟩)] w fun e w' => e = .returned (.bool (oneB x)) ∧ Below w.heap.size w w' := by
  have cK := kind_any h
  have hS := wf_s hw
  have hT := wf_t hw
  unfold kindV at cK
  unfold oneB
  by_cases h0 : x.k = 0
  · rw [if_pos h0] at cK ⊢
    cases hb : bareB x true false false false <;> rw [hb] at cK
    · exact one_nil cK
    · exact one_number cK
  rw [if_neg h0] at cK ⊢
  by_cases h2 : x.k = 2 ∨ x.k = 4
  · rw [if_pos h2] at cK ⊢
    cases hb : bareB x true false false false <;> rw [hb] at cK
    · exact one_nil cK
    · exact one_named cK
  rw [if_neg h2] at cK ⊢
  by_cases h1 : x.k = 1
  · rw [if_pos h1] at cK ⊢
    cases hb : bareB x false true false false <;> rw [hb] at cK
    · exact one_nil cK
    · exact one_atom hL hS cK
  rw [if_neg h1] at cK ⊢
  by_cases h3 : x.k = 3
  · rw [if_pos h3] at cK ⊢
    cases hb : bareB x true true true false <;> rw [hb] at cK
    · exact one_nil cK
    · exact one_fun hL hS hT cK
  rw [if_neg h3] at cK ⊢
  by_cases h5 : x.k = 5
  · rw [if_pos h5] at cK ⊢
    cases hb : bareB x false false false true <;> rw [hb] at cK
    · exact one_nil cK
    · exact one_parts hlen cK
  rw [if_neg h5] at cK ⊢
  by_cases h6 : x.k = 6
  · rw [if_pos h6] at cK ⊢
    cases hb : bareB x false false false false <;> rw [hb] at cK
    · exact one_nil cK
    · exact one_parts (n := 0) (Nat.zero_le _) cK
  rw [if_neg h6] at cK ⊢
  by_cases h7 : x.k = 7
  · rw [if_pos h7] at cK ⊢
    cases hb : bareB x false false false true <;> rw [hb] at cK
    · exact one_nil cK
    · exact one_parts hlen cK
  rw [if_neg h7] at cK ⊢
  exact one_nil cK
end Go.Proofs.YtlhobpknflobgaaGreatDoor
namespace Go.Proofs.YtlhobpknflobgaaGreatDoor
open Go.RowKit

theorem box5 (w : World) (a b c d e : Value) (T : TypeId) : (w.alloc (.cells #[a, b, c, d, e] T)).cell? ⟨w.heap.size, 0, none⟩ = some a ∧ (w.alloc (.cells #[a, b, c, d, e] T)).cell? ⟨w.heap.size, 1, none⟩ = some b ∧ (w.alloc (.cells #[a, b, c, d, e] T)).cell? ⟨w.heap.size, 2, none⟩ = some c ∧
    (w.alloc (.cells #[a, b, c, d, e] T)).cell? ⟨w.heap.size, 3, none⟩ = some d ∧ (w.alloc (.cells #[a, b, c, d, e] T)).cell? ⟨w.heap.size, 4, none⟩ = some e := by
  refine ⟨?_, ?_, ?_, ?_, ?_⟩ <;> (rw [World.cell?_alloc_at _ _ _ _ (by simp)]; rfl)

set_option maxHeartbeats 4000000 in
set_option maxRecDepth 100000 in
theorem rbare_any (w : World) (x : Tr) (p : Option Addr) (c : Nat) (n s t l : Bool) :
    Calls Tryz.prog 133 #[.agg #[.int .i8 x.k, .int .i64 x.n, .string x.s, .string x.t, .slice p x.l.length c], .bool n, .bool s, .bool t, .bool l] w fun e w' => e = .returned (.bool (bareB x n s t l)) ∧ Below w.heap.size w w' := by
  obtain ⟨e0, e1, e2, e3, e4⟩ := box5 w (.int .i8 x.k) (.int .i64 x.n) (.string x.s) (.string x.t) (.slice p x.l.length c) 29
  cases n <;> cases s <;> cases t <;> cases l
  all_goals
    go_enter Tryz.func133, Tryz.ntmps133
    go_wp2
    all_goals
      go_ret
      exact ⟨ret_bool (by simp [bareB, emp, *]), alloc_below _ _⟩

set_option maxHeartbeats 4000000 in
set_option maxRecDepth 100000 in
theorem rone_any (w : World) (x : Tr) (p : Option Addr) (c : Nat) (hw : NodeWf x) :
    Calls Tryz.prog 91 #[.agg #[.int .i8 x.k, .int .i64 x.n, .string x.s, .string x.t, .slice p x.l.length c]] w fun e w' => e = .returned (.bool (oneB x)) ∧ Below w.heap.size w w' := by
  obtain ⟨e0, e1, e2, e3, e4⟩ := box5 w (.int .i8 x.k) (.int .i64 x.n) (.string x.s) (.string x.t) (.slice p x.l.length c) 29
  have hb0 := alloc_below w (.cells #[.int .i8 x.k, .int .i64 x.n, .string x.s, .string x.t, .slice p x.l.length c] 29)
  have cB := fun W => rbare_any W x p c
  have hS := wf_s hw
  have hT := wf_t hw
  have cM := fun (W : World) (u : ByteArray) (hu : u = x.s ∨ u = x.t) => rmay_any W u (by rcases hu with rfl | rfl <;> assumption)
  clear hw
  by_cases h0 : x.k = 0
  · rw [h0] at cB
    cases hb : bareB x true false false false
    · have HV : Hid (oneB x = false) := by unfold Hid oneB; simp [h0, hb]
      have HB := Lib.hid hb
      rw [h0] at e0 hb0 e1 e2 e3 e4 ⊢
      clear hb h0
      go_enter Tryz.func91, Tryz.ntmps91
      go_wp2_with (first | (go_at_call 133; refine (cB _ _ _ _ _).mono ?_; rintro e w1 ⟨rfl, hb1⟩; rw [HB.out]; have e1 := (hb1.cell (p := ⟨w.heap.size, 1, none⟩) (cell_block e1)).trans e1; have e2 := (hb1.cell (p := ⟨w.heap.size, 2, none⟩) (cell_block e2)).trans e2; have e3 := (hb1.cell (p := ⟨w.heap.size, 3, none⟩) (cell_block e3)).trans e3; have e4 := (hb1.cell (p := ⟨w.heap.size, 4, none⟩) (cell_block e4)).trans e4))
      go_ret
      exact ⟨by rw [HV.out]; rfl, hb0.trans (hb1.mono hb0.size)⟩
    · have HV : Hid (oneB x = (mayI x.n)) := by unfold Hid oneB; simp [h0, hb]
      have HB := Lib.hid hb
      rw [h0] at e0 hb0 e1 e2 e3 e4 ⊢
      clear hb h0
      go_enter Tryz.func91, Tryz.ntmps91
      go_wp2_with (first | (go_at_call 133; refine (cB _ _ _ _ _).mono ?_; rintro e w1 ⟨rfl, hb1⟩; rw [HB.out]; have e1 := (hb1.cell (p := ⟨w.heap.size, 1, none⟩) (cell_block e1)).trans e1; have e2 := (hb1.cell (p := ⟨w.heap.size, 2, none⟩) (cell_block e2)).trans e2; have e3 := (hb1.cell (p := ⟨w.heap.size, 3, none⟩) (cell_block e3)).trans e3; have e4 := (hb1.cell (p := ⟨w.heap.size, 4, none⟩) (cell_block e4)).trans e4) | (go_at_call 134; refine (rintsMay_any _ _).mono ?_; rintro e w' ⟨rfl, rfl⟩))
      go_ret
      exact ⟨by rw [HV.out]; rfl, hb0.trans (hb1.mono hb0.size)⟩
  by_cases h1 : x.k = 1
  · rw [h1] at cB
    cases hb : bareB x false true false false
    · have HV : Hid (oneB x = false) := by unfold Hid oneB; simp [h1, hb]
      have HB := Lib.hid hb
      rw [h1] at e0 hb0 e1 e2 e3 e4 ⊢
      clear hb h0 h1
      go_enter Tryz.func91, Tryz.ntmps91
      go_wp2_with (first | (go_at_call 133; refine (cB _ _ _ _ _).mono ?_; rintro e w1 ⟨rfl, hb1⟩; rw [HB.out]; have e1 := (hb1.cell (p := ⟨w.heap.size, 1, none⟩) (cell_block e1)).trans e1; have e2 := (hb1.cell (p := ⟨w.heap.size, 2, none⟩) (cell_block e2)).trans e2; have e3 := (hb1.cell (p := ⟨w.heap.size, 3, none⟩) (cell_block e3)).trans e3; have e4 := (hb1.cell (p := ⟨w.heap.size, 4, none⟩) (cell_block e4)).trans e4))
      go_ret
      exact ⟨by rw [HV.out]; rfl, hb0.trans (hb1.mono hb0.size)⟩
    · have HV : Hid (oneB x = (mayA x.s)) := by unfold Hid oneB; simp [h1, hb]
      have HB := Lib.hid hb
      rw [h1] at e0 hb0 e1 e2 e3 e4 ⊢
      clear hb h0 h1
      go_enter Tryz.func91, Tryz.ntmps91
      go_wp2_with (first | (go_at_call 133; refine (cB _ _ _ _ _).mono ?_; rintro e w1 ⟨rfl, hb1⟩; rw [HB.out]; have e1 := (hb1.cell (p := ⟨w.heap.size, 1, none⟩) (cell_block e1)).trans e1; have e2 := (hb1.cell (p := ⟨w.heap.size, 2, none⟩) (cell_block e2)).trans e2; have e3 := (hb1.cell (p := ⟨w.heap.size, 3, none⟩) (cell_block e3)).trans e3; have e4 := (hb1.cell (p := ⟨w.heap.size, 4, none⟩) (cell_block e4)).trans e4) | (go_at_call 135; refine (cM _ _ (.inl rfl)).mono ?_; rintro e w' ⟨rfl, rfl⟩))
      go_ret
      exact ⟨by rw [HV.out]; rfl, hb0.trans (hb1.mono hb0.size)⟩
  by_cases h2 : x.k = 2
  · rw [h2] at cB
    cases hb : bareB x true false false false
    · have HV : Hid (oneB x = false) := by unfold Hid oneB; simp [h2, hb]
      have HB := Lib.hid hb
      rw [h2] at e0 hb0 e1 e2 e3 e4 ⊢
      clear hb h0 h1 h2
      go_enter Tryz.func91, Tryz.ntmps91
      go_wp2_with (first | (go_at_call 133; refine (cB _ _ _ _ _).mono ?_; rintro e w1 ⟨rfl, hb1⟩; rw [HB.out]; have e1 := (hb1.cell (p := ⟨w.heap.size, 1, none⟩) (cell_block e1)).trans e1; have e2 := (hb1.cell (p := ⟨w.heap.size, 2, none⟩) (cell_block e2)).trans e2; have e3 := (hb1.cell (p := ⟨w.heap.size, 3, none⟩) (cell_block e3)).trans e3; have e4 := (hb1.cell (p := ⟨w.heap.size, 4, none⟩) (cell_block e4)).trans e4))
      go_ret
      exact ⟨by rw [HV.out]; rfl, hb0.trans (hb1.mono hb0.size)⟩
    · have HV : Hid (oneB x = (decide (0 ≤ x.n) && decide (x.n ≤ 576460752303423487))) := by unfold Hid oneB; simp [h2, hb]
      have HB := Lib.hid hb
      rw [h2] at e0 hb0 e1 e2 e3 e4 ⊢
      clear hb h0 h1 h2
      by_cases h0 : 0 ≤ x.n
      · go_enter Tryz.func91, Tryz.ntmps91
        go_wp2_with (first | (go_at_call 133; refine (cB _ _ _ _ _).mono ?_; rintro e w1 ⟨rfl, hb1⟩; rw [HB.out]; have e1 := (hb1.cell (p := ⟨w.heap.size, 1, none⟩) (cell_block e1)).trans e1; have e2 := (hb1.cell (p := ⟨w.heap.size, 2, none⟩) (cell_block e2)).trans e2; have e3 := (hb1.cell (p := ⟨w.heap.size, 3, none⟩) (cell_block e3)).trans e3; have e4 := (hb1.cell (p := ⟨w.heap.size, 4, none⟩) (cell_block e4)).trans e4))
        go_ret
        exact ⟨by rw [HV.out]; rw [decide_eq_true h0]; rfl, hb0.trans (hb1.mono hb0.size)⟩
      · go_enter Tryz.func91, Tryz.ntmps91
        go_wp2_with (first | (go_at_call 133; refine (cB _ _ _ _ _).mono ?_; rintro e w1 ⟨rfl, hb1⟩; rw [HB.out]; have e1 := (hb1.cell (p := ⟨w.heap.size, 1, none⟩) (cell_block e1)).trans e1; have e2 := (hb1.cell (p := ⟨w.heap.size, 2, none⟩) (cell_block e2)).trans e2; have e3 := (hb1.cell (p := ⟨w.heap.size, 3, none⟩) (cell_block e3)).trans e3; have e4 := (hb1.cell (p := ⟨w.heap.size, 4, none⟩) (cell_block e4)).trans e4))
        go_ret
        exact ⟨by rw [HV.out]; rw [decide_eq_false (by omega)]; rfl, hb0.trans (hb1.mono hb0.size)⟩
  by_cases h4 : x.k = 4
  · rw [h4] at cB
    cases hb : bareB x true false false false
    · have HV : Hid (oneB x = false) := by unfold Hid oneB; simp [h4, hb]
      have HB := Lib.hid hb
      rw [h4] at e0 hb0 e1 e2 e3 e4 ⊢
      clear hb h0 h1 h2 h4
      go_enter Tryz.func91, Tryz.ntmps91
      go_wp2_with (first | (go_at_call 133; refine (cB _ _ _ _ _).mono ?_; rintro e w1 ⟨rfl, hb1⟩; rw [HB.out]; have e1 := (hb1.cell (p := ⟨w.heap.size, 1, none⟩) (cell_block e1)).trans e1; have e2 := (hb1.cell (p := ⟨w.heap.size, 2, none⟩) (cell_block e2)).trans e2; have e3 := (hb1.cell (p := ⟨w.heap.size, 3, none⟩) (cell_block e3)).trans e3; have e4 := (hb1.cell (p := ⟨w.heap.size, 4, none⟩) (cell_block e4)).trans e4))
      go_ret
      exact ⟨by rw [HV.out]; rfl, hb0.trans (hb1.mono hb0.size)⟩
    · have HV : Hid (oneB x = (decide (0 ≤ x.n) && decide (x.n ≤ 576460752303423487))) := by unfold Hid oneB; simp [h4, hb]
      have HB := Lib.hid hb
      rw [h4] at e0 hb0 e1 e2 e3 e4 ⊢
      clear hb h0 h1 h2 h4
      by_cases h0 : 0 ≤ x.n
      · go_enter Tryz.func91, Tryz.ntmps91
        go_wp2_with (first | (go_at_call 133; refine (cB _ _ _ _ _).mono ?_; rintro e w1 ⟨rfl, hb1⟩; rw [HB.out]; have e1 := (hb1.cell (p := ⟨w.heap.size, 1, none⟩) (cell_block e1)).trans e1; have e2 := (hb1.cell (p := ⟨w.heap.size, 2, none⟩) (cell_block e2)).trans e2; have e3 := (hb1.cell (p := ⟨w.heap.size, 3, none⟩) (cell_block e3)).trans e3; have e4 := (hb1.cell (p := ⟨w.heap.size, 4, none⟩) (cell_block e4)).trans e4))
        go_ret
        exact ⟨by rw [HV.out]; rw [decide_eq_true h0]; rfl, hb0.trans (hb1.mono hb0.size)⟩
      · go_enter Tryz.func91, Tryz.ntmps91
        go_wp2_with (first | (go_at_call 133; refine (cB _ _ _ _ _).mono ?_; rintro e w1 ⟨rfl, hb1⟩; rw [HB.out]; have e1 := (hb1.cell (p := ⟨w.heap.size, 1, none⟩) (cell_block e1)).trans e1; have e2 := (hb1.cell (p := ⟨w.heap.size, 2, none⟩) (cell_block e2)).trans e2; have e3 := (hb1.cell (p := ⟨w.heap.size, 3, none⟩) (cell_block e3)).trans e3; have e4 := (hb1.cell (p := ⟨w.heap.size, 4, none⟩) (cell_block e4)).trans e4))
        go_ret
        exact ⟨by rw [HV.out]; rw [decide_eq_false (by omega)]; rfl, hb0.trans (hb1.mono hb0.size)⟩
  by_cases h3 : x.k = 3
  · rw [h3] at cB
    cases hb : bareB x true true true false
    · have HV : Hid (oneB x = false) := by unfold Hid oneB; simp [h3, hb]
      have HB := Lib.hid hb
      rw [h3] at e0 hb0 e1 e2 e3 e4 ⊢
      clear hb h0 h1 h2 h4 h3
      go_enter Tryz.func91, Tryz.ntmps91
      go_wp2_with (first | (go_at_call 133; refine (cB _ _ _ _ _).mono ?_; rintro e w1 ⟨rfl, hb1⟩; rw [HB.out]; have e1 := (hb1.cell (p := ⟨w.heap.size, 1, none⟩) (cell_block e1)).trans e1; have e2 := (hb1.cell (p := ⟨w.heap.size, 2, none⟩) (cell_block e2)).trans e2; have e3 := (hb1.cell (p := ⟨w.heap.size, 3, none⟩) (cell_block e3)).trans e3; have e4 := (hb1.cell (p := ⟨w.heap.size, 4, none⟩) (cell_block e4)).trans e4))
      go_ret
      exact ⟨by rw [HV.out]; rfl, hb0.trans (hb1.mono hb0.size)⟩
    · have HV : Hid (oneB x = (mayA x.s && mayA x.t && (decide (0 ≤ x.n) && decide (x.n ≤ 8)))) := by unfold Hid oneB; simp [h3, hb]
      have HB := Lib.hid hb
      rw [h3] at e0 hb0 e1 e2 e3 e4 ⊢
      clear hb h0 h1 h2 h4 h3
      cases hs : mayA x.s
      · have HS := Lib.hid hs
        rw [hs] at HV
        clear hs
        go_enter Tryz.func91, Tryz.ntmps91
        go_wp2_with (first | (go_at_call 133; refine (cB _ _ _ _ _).mono ?_; rintro e w1 ⟨rfl, hb1⟩; rw [HB.out]; have e1 := (hb1.cell (p := ⟨w.heap.size, 1, none⟩) (cell_block e1)).trans e1; have e2 := (hb1.cell (p := ⟨w.heap.size, 2, none⟩) (cell_block e2)).trans e2; have e3 := (hb1.cell (p := ⟨w.heap.size, 3, none⟩) (cell_block e3)).trans e3; have e4 := (hb1.cell (p := ⟨w.heap.size, 4, none⟩) (cell_block e4)).trans e4) | (go_at_call 135; refine (cM _ _ (by first | exact .inl rfl | exact .inr rfl)).mono ?_; rintro e w' ⟨rfl, rfl⟩; rw [HS.out]))
        go_ret
        exact ⟨by rw [HV.out]; rfl, hb0.trans (hb1.mono hb0.size)⟩
      · have HS := Lib.hid hs
        rw [hs] at HV
        clear hs
        cases ht : mayA x.t
        · have HT := Lib.hid ht
          rw [ht] at HV
          clear ht
          go_enter Tryz.func91, Tryz.ntmps91
          go_wp2_with (first | (go_at_call 133; refine (cB _ _ _ _ _).mono ?_; rintro e w1 ⟨rfl, hb1⟩; rw [HB.out]; have e1 := (hb1.cell (p := ⟨w.heap.size, 1, none⟩) (cell_block e1)).trans e1; have e2 := (hb1.cell (p := ⟨w.heap.size, 2, none⟩) (cell_block e2)).trans e2; have e3 := (hb1.cell (p := ⟨w.heap.size, 3, none⟩) (cell_block e3)).trans e3; have e4 := (hb1.cell (p := ⟨w.heap.size, 4, none⟩) (cell_block e4)).trans e4) | (go_at_call 135; refine (cM _ _ (by first | exact .inl rfl | exact .inr rfl)).mono ?_; rintro e w' ⟨rfl, rfl⟩; first | rw [HS.out] | rw [HT.out]))
          go_ret
          exact ⟨by rw [HV.out]; rfl, hb0.trans (hb1.mono hb0.size)⟩
        · have HT := Lib.hid ht
          rw [ht] at HV
          clear ht
          by_cases h0 : 0 ≤ x.n
          · go_enter Tryz.func91, Tryz.ntmps91
            go_wp2_with (first | (go_at_call 133; refine (cB _ _ _ _ _).mono ?_; rintro e w1 ⟨rfl, hb1⟩; rw [HB.out]; have e1 := (hb1.cell (p := ⟨w.heap.size, 1, none⟩) (cell_block e1)).trans e1; have e2 := (hb1.cell (p := ⟨w.heap.size, 2, none⟩) (cell_block e2)).trans e2; have e3 := (hb1.cell (p := ⟨w.heap.size, 3, none⟩) (cell_block e3)).trans e3; have e4 := (hb1.cell (p := ⟨w.heap.size, 4, none⟩) (cell_block e4)).trans e4) | (go_at_call 135; refine (cM _ _ (by first | exact .inl rfl | exact .inr rfl)).mono ?_; rintro e w' ⟨rfl, rfl⟩; first | rw [HS.out] | rw [HT.out]))
            go_ret
            exact ⟨by rw [HV.out]; rw [decide_eq_true h0]; rfl, hb0.trans (hb1.mono hb0.size)⟩
          · go_enter Tryz.func91, Tryz.ntmps91
            go_wp2_with (first | (go_at_call 133; refine (cB _ _ _ _ _).mono ?_; rintro e w1 ⟨rfl, hb1⟩; rw [HB.out]; have e1 := (hb1.cell (p := ⟨w.heap.size, 1, none⟩) (cell_block e1)).trans e1; have e2 := (hb1.cell (p := ⟨w.heap.size, 2, none⟩) (cell_block e2)).trans e2; have e3 := (hb1.cell (p := ⟨w.heap.size, 3, none⟩) (cell_block e3)).trans e3; have e4 := (hb1.cell (p := ⟨w.heap.size, 4, none⟩) (cell_block e4)).trans e4) | (go_at_call 135; refine (cM _ _ (by first | exact .inl rfl | exact .inr rfl)).mono ?_; rintro e w' ⟨rfl, rfl⟩; first | rw [HS.out] | rw [HT.out]))
            go_ret
            exact ⟨by rw [HV.out]; rw [decide_eq_false (by omega)]; rfl, hb0.trans (hb1.mono hb0.size)⟩
  by_cases h5 : x.k = 5
  · rw [h5] at cB
    cases hb : bareB x false false false true
    · have HV : Hid (oneB x = false) := by unfold Hid oneB; simp [h5, hb]
      have HB := Lib.hid hb
      rw [h5] at e0 hb0 e1 e2 e3 e4 ⊢
      clear hb h0 h1 h2 h4 h3 h5
      go_enter Tryz.func91, Tryz.ntmps91
      go_wp2_with (first | (go_at_call 133; refine (cB _ _ _ _ _).mono ?_; rintro e w1 ⟨rfl, hb1⟩; rw [HB.out]; have e1 := (hb1.cell (p := ⟨w.heap.size, 1, none⟩) (cell_block e1)).trans e1; have e2 := (hb1.cell (p := ⟨w.heap.size, 2, none⟩) (cell_block e2)).trans e2; have e3 := (hb1.cell (p := ⟨w.heap.size, 3, none⟩) (cell_block e3)).trans e3; have e4 := (hb1.cell (p := ⟨w.heap.size, 4, none⟩) (cell_block e4)).trans e4))
      go_ret
      exact ⟨by rw [HV.out]; rfl, hb0.trans (hb1.mono hb0.size)⟩
    · have HV : Hid (oneB x = (true)) := by unfold Hid oneB; simp [h5, hb]
      have HB := Lib.hid hb
      rw [h5] at e0 hb0 e1 e2 e3 e4 ⊢
      clear hb h0 h1 h2 h4 h3 h5
      go_enter Tryz.func91, Tryz.ntmps91
      go_wp2_with (first | (go_at_call 133; refine (cB _ _ _ _ _).mono ?_; rintro e w1 ⟨rfl, hb1⟩; rw [HB.out]; have e1 := (hb1.cell (p := ⟨w.heap.size, 1, none⟩) (cell_block e1)).trans e1; have e2 := (hb1.cell (p := ⟨w.heap.size, 2, none⟩) (cell_block e2)).trans e2; have e3 := (hb1.cell (p := ⟨w.heap.size, 3, none⟩) (cell_block e3)).trans e3; have e4 := (hb1.cell (p := ⟨w.heap.size, 4, none⟩) (cell_block e4)).trans e4))
      go_ret
      exact ⟨by rw [HV.out]; rfl, hb0.trans (hb1.mono hb0.size)⟩
  by_cases h6 : x.k = 6
  · rw [h6] at cB
    cases hb : bareB x false false false false
    · have HV : Hid (oneB x = false) := by unfold Hid oneB; simp [h6, hb]
      have HB := Lib.hid hb
      rw [h6] at e0 hb0 e1 e2 e3 e4 ⊢
      clear hb h0 h1 h2 h4 h3 h5 h6
      go_enter Tryz.func91, Tryz.ntmps91
      go_wp2_with (first | (go_at_call 133; refine (cB _ _ _ _ _).mono ?_; rintro e w1 ⟨rfl, hb1⟩; rw [HB.out]; have e1 := (hb1.cell (p := ⟨w.heap.size, 1, none⟩) (cell_block e1)).trans e1; have e2 := (hb1.cell (p := ⟨w.heap.size, 2, none⟩) (cell_block e2)).trans e2; have e3 := (hb1.cell (p := ⟨w.heap.size, 3, none⟩) (cell_block e3)).trans e3; have e4 := (hb1.cell (p := ⟨w.heap.size, 4, none⟩) (cell_block e4)).trans e4))
      go_ret
      exact ⟨by rw [HV.out]; rfl, hb0.trans (hb1.mono hb0.size)⟩
    · have HV : Hid (oneB x = (true)) := by unfold Hid oneB; simp [h6, hb]
      have HB := Lib.hid hb
      rw [h6] at e0 hb0 e1 e2 e3 e4 ⊢
      clear hb h0 h1 h2 h4 h3 h5 h6
      go_enter Tryz.func91, Tryz.ntmps91
      go_wp2_with (first | (go_at_call 133; refine (cB _ _ _ _ _).mono ?_; rintro e w1 ⟨rfl, hb1⟩; rw [HB.out]; have e1 := (hb1.cell (p := ⟨w.heap.size, 1, none⟩) (cell_block e1)).trans e1; have e2 := (hb1.cell (p := ⟨w.heap.size, 2, none⟩) (cell_block e2)).trans e2; have e3 := (hb1.cell (p := ⟨w.heap.size, 3, none⟩) (cell_block e3)).trans e3; have e4 := (hb1.cell (p := ⟨w.heap.size, 4, none⟩) (cell_block e4)).trans e4))
      go_ret
      exact ⟨by rw [HV.out]; rfl, hb0.trans (hb1.mono hb0.size)⟩
  by_cases h7 : x.k = 7
  · rw [h7] at cB
    cases hb : bareB x false false false true
    · have HV : Hid (oneB x = false) := by unfold Hid oneB; simp [h7, hb]
      have HB := Lib.hid hb
      rw [h7] at e0 hb0 e1 e2 e3 e4 ⊢
      clear hb h0 h1 h2 h4 h3 h5 h6 h7
      go_enter Tryz.func91, Tryz.ntmps91
      go_wp2_with (first | (go_at_call 133; refine (cB _ _ _ _ _).mono ?_; rintro e w1 ⟨rfl, hb1⟩; rw [HB.out]; have e1 := (hb1.cell (p := ⟨w.heap.size, 1, none⟩) (cell_block e1)).trans e1; have e2 := (hb1.cell (p := ⟨w.heap.size, 2, none⟩) (cell_block e2)).trans e2; have e3 := (hb1.cell (p := ⟨w.heap.size, 3, none⟩) (cell_block e3)).trans e3; have e4 := (hb1.cell (p := ⟨w.heap.size, 4, none⟩) (cell_block e4)).trans e4))
      go_ret
      exact ⟨by rw [HV.out]; rfl, hb0.trans (hb1.mono hb0.size)⟩
    · have HV : Hid (oneB x = ((x.l.length : Int) == 2)) := by unfold Hid oneB; simp [h7, hb]
      have HB := Lib.hid hb
      rw [h7] at e0 hb0 e1 e2 e3 e4 ⊢
      clear hb h0 h1 h2 h4 h3 h5 h6 h7
      go_enter Tryz.func91, Tryz.ntmps91
      go_wp2_with (first | (go_at_call 133; refine (cB _ _ _ _ _).mono ?_; rintro e w1 ⟨rfl, hb1⟩; rw [HB.out]; have e1 := (hb1.cell (p := ⟨w.heap.size, 1, none⟩) (cell_block e1)).trans e1; have e2 := (hb1.cell (p := ⟨w.heap.size, 2, none⟩) (cell_block e2)).trans e2; have e3 := (hb1.cell (p := ⟨w.heap.size, 3, none⟩) (cell_block e3)).trans e3; have e4 := (hb1.cell (p := ⟨w.heap.size, 4, none⟩) (cell_block e4)).trans e4))
      go_ret
      exact ⟨by rw [HV.out]; rfl, hb0.trans (hb1.mono hb0.size)⟩
  have HV : Hid (oneB x = false) := by
    unfold Hid oneB; simp [h0, h1, h2, h3, h4, h5, h6, h7]
  have g0 : (x.k == 0) = false := by simpa using h0
  have g1 : (x.k == 1) = false := by simpa using h1
  have g2 : (x.k == 2) = false := by simpa using h2
  have g3 : (x.k == 3) = false := by simpa using h3
  have g4 : (x.k == 4) = false := by simpa using h4
  have g5 : (x.k == 5) = false := by simpa using h5
  have g6 : (x.k == 6) = false := by simpa using h6
  have g7 : (x.k == 7) = false := by simpa using h7
  clear h0 h1 h2 h3 h4 h5 h6 h7
  go_enter Tryz.func91, Tryz.ntmps91
  go_wp2
  go_ret
  exact ⟨by rw [HV.out]; rfl, hb0⟩
end Go.Proofs.YtlhobpknflobgaaGreatDoor
