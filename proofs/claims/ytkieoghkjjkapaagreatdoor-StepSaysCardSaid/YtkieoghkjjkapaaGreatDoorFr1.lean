/-
  A frame and an instruction out of what their row hands over, as data of open runs. No condition.
-/
import Derived.Test.YtkieoghkjjkapaaGreatDoorOa3
import Derived.Test.YtkieoghkjjkapaaGreatDoorRd4
namespace Go.Proofs.YtkieoghkjjkapaaGreatDoor.Rdb
open Go.RowKit Sx Oa
set_option maxRecDepth 100000
theorem one_of {α : Type} {l : List α} {n : Nat} (h : l.length = n + 1) : ∃ a r, l = a :: r ∧ r.length = n := by
  cases l with
  | nil => cases h
  | cons a r => exact ⟨a, r, rfl, by simpa using h⟩
theorem rd_bools {w : World} {n : Nat} {cs : List Value} (h : Rd Tryz.prog w n 24 cs) : ∃ (v : Value) (l : List Bool), cs = [v] ∧ DR lay (memOf w) (.sl 4) (.r (rowsO l)) v := by
  obtain ⟨m, p, len, cap, rfl, rfl, hl, hw, hel⟩ := rd_slice Tryz.underlying24 h
  have hc : Tryz.prog.cellsOf 4 = 1 := by kernel_rfl
  have each : ∀ i, ∃ q : Bool, i < len → ∃ g o, p = some ⟨g, o, none⟩ ∧ w.cell? ⟨g, o + i, none⟩ = some (.bool q) := fun i => by
    by_cases hil : i < len
    · obtain ⟨g, o, es, e1, e2, e3, e4⟩ := hel i hil (by rw [hc]; decide)
      obtain ⟨b, rfl⟩ := rd_bool Tryz.underlying4 e4
      rw [hc] at e3
      exact ⟨b, fun _ => ⟨g, o, e1, by simpa using e3 0 _ rfl⟩⟩
    · exact ⟨true, fun h => absurd h hil⟩
  obtain ⟨Q, hQ⟩ := Classical.axiomOfChoice each
  refine ⟨_, (List.range len).map Q, rfl, ?_⟩
  have := dr_bools (w := w) (l := (List.range len).map Q) (p := p) (c := cap) (by simpa using hl) (fun i hi => by
    have hi' : i < len := by simpa using hi
    obtain ⟨g, o, e1, e2⟩ := hQ i hi'
    exact ⟨g, o, e1, by simpa using e2⟩)
  simpa using this
theorem rd_tries {w : World} {n : Nat} {cs : List Value} (h : Rd Tryz.prog w n 25 cs) : ∃ (v : Value) (k : Nat), cs = [v] ∧ DR lay (memOf w) (.sl 146) (.r (rowsU k)) v := by
  obtain ⟨m, p, len, cap, rfl, rfl, hl, hw, hel⟩ := rd_slice Tryz.underlying25 h
  refine ⟨_, len, rfl, dr_none rfl hl fun h0 => ?_⟩
  obtain ⟨g, o, es, e1, _⟩ := hel 0 h0 (by rw [show Tryz.prog.cellsOf 146 = 2 from by kernel_rfl]; decide)
  exact ⟨g, o, e1⟩

/-- What can be read of a machine. -/
theorem rd_machine {w : World} {n : Nat} {cs : List Value} (h : Rd Tryz.prog w n 34 cs) : ∃ (m0 m1 m2 m3 m4 m20 m21 m22 m23 m24 m25 m26 : Value) (t u v : Tr) (tv uv vv : Value),
    cs = [m0, m1, m2, m3, m4, .int .i8 t.k, .int .i64 t.n, .string t.s, .string t.t, tv, .int .i8 u.k, .int .i64 u.n, .string u.s, .string u.t, uv, .int .i8 v.k, .int .i64 v.n, .string v.s, .string v.t, vv, m20, m21, m22, m23, m24, m25, m26] ∧ TrV (fun _ => True) w t tv ∧ TrV (fun _ => True) w u uv ∧ TrV (fun _ => True) w v vv := by
  obtain ⟨m, rfl, hl, hfs⟩ := rd_field Tryz.underlying34 (L := [(22, 0), (3, 1), (3, 2), (3, 3), (3, 4), (27, 5), (27, 10), (27, 15), (28, 20), (31, 21), (32, 25), (32, 26)]) (by kernel_rfl) h
  rw [show Tryz.prog.cellsOf 34 = 27 from by kernel_rfl] at hl
  obtain ⟨m0, r_0, rfl, h_0⟩ := one_of hl
  obtain ⟨m1, r_1, rfl, h_1⟩ := one_of h_0
  obtain ⟨m2, r_2, rfl, h_2⟩ := one_of h_1
  obtain ⟨m3, r_3, rfl, h_3⟩ := one_of h_2
  obtain ⟨m4, r_4, rfl, h_4⟩ := one_of h_3
  obtain ⟨m5, r_5, rfl, h_5⟩ := one_of h_4
  obtain ⟨m6, r_6, rfl, h_6⟩ := one_of h_5
  obtain ⟨m7, r_7, rfl, h_7⟩ := one_of h_6
  obtain ⟨m8, r_8, rfl, h_8⟩ := one_of h_7
  obtain ⟨m9, r_9, rfl, h_9⟩ := one_of h_8
  obtain ⟨m10, r_10, rfl, h_10⟩ := one_of h_9
  obtain ⟨m11, r_11, rfl, h_11⟩ := one_of h_10
  obtain ⟨m12, r_12, rfl, h_12⟩ := one_of h_11
  obtain ⟨m13, r_13, rfl, h_13⟩ := one_of h_12
  obtain ⟨m14, r_14, rfl, h_14⟩ := one_of h_13
  obtain ⟨m15, r_15, rfl, h_15⟩ := one_of h_14
  obtain ⟨m16, r_16, rfl, h_16⟩ := one_of h_15
  obtain ⟨m17, r_17, rfl, h_17⟩ := one_of h_16
  obtain ⟨m18, r_18, rfl, h_18⟩ := one_of h_17
  obtain ⟨m19, r_19, rfl, h_19⟩ := one_of h_18
  obtain ⟨m20, r_20, rfl, h_20⟩ := one_of h_19
  obtain ⟨m21, r_21, rfl, h_21⟩ := one_of h_20
  obtain ⟨m22, r_22, rfl, h_22⟩ := one_of h_21
  obtain ⟨m23, r_23, rfl, h_23⟩ := one_of h_22
  obtain ⟨m24, r_24, rfl, h_24⟩ := one_of h_23
  obtain ⟨m25, r_25, rfl, h_25⟩ := one_of h_24
  obtain ⟨m26, r_26, rfl, h_26⟩ := one_of h_25
  obtain rfl := List.eq_nil_of_length_eq_zero h_26
  have k5 := hfs 5 _ _ rfl
  have k6 := hfs 6 _ _ rfl
  have k7 := hfs 7 _ _ rfl
  rw [show Tryz.prog.cellsOf 27 = 5 from by kernel_rfl] at k5 k6 k7
  simp only [List.drop_zero, List.drop_succ_cons, List.take_succ_cons, List.take_zero] at k5 k6 k7
  obtain ⟨t, tv, e5, ht⟩ := rd_term m _ k5
  obtain ⟨u, uv, e6, hu⟩ := rd_term m _ k6
  obtain ⟨v, vv, e7, hv⟩ := rd_term m _ k7
  cases e5; cases e6; cases e7
  exact ⟨m0, m1, m2, m3, m4, m20, m21, m22, m23, m24, m25, m26, t, u, v, _, _, _, rfl, ht, hu, hv⟩
/-- A frame as data. -/
def frT (kd : Int) (ls st : List Tr) (bs : List Bool) (nt : Nat) (t u v : Tr) : TV := .ag [.i .i8 kd, .any, .any, .es 27 (.r (rowsT ls)), .es 4 (.r (rowsO bs)), .es 27 (.r (rowsT st)), .es 146 (.r (rowsU nt)), .any, .any, .any, .any, .any, .any, .i .i8 t.k, .i .i64 t.n, .s (nats t.s), .s (nats t.t), .es 27 (.r (rowsT t.l)), .i .i8 u.k, .i .i64 u.n, .s (nats u.s), .s (nats u.t), .es 27 (.r (rowsT u.l)), .i .i8 v.k, .i .i64 v.n, .s (nats v.s), .s (nats v.t), .es 27 (.r (rowsT v.l)), .any, .any, .any, .any, .any, .any, .any]
/-- An instruction as data. -/
def coT (op a b : Int) : TV := .ag [.i .i8 op, .i .i64 a, .i .i64 b, .any, .any, .any, .any, .any, .any, .any, .any, .any, .any, .any]
theorem rd_frame {w : World} {n : Nat} {cs : List Value} (h : Rd Tryz.prog w n 36 cs) : ∃ (kd : Int) (ls st : List Tr) (bs : List Bool) (nt : Nat) (t u v : Tr), VR rho (bare (memOf w)) (frT kd ls st bs nt t u v) (.agg cs.toArray) ∧ (∀ y, y ∈ ls → TrOk y) ∧ ls.length ≤ BL ∧ (∀ y, y ∈ st → TrOk y) ∧ st.length ≤ BL ∧ TrOk t ∧ TrOk u ∧ TrOk v := by
  obtain ⟨m, rfl, hl, hfs⟩ := rd_field Tryz.underlying36 (L := [(22, 0), (3, 1), (3, 2), (23, 3), (24, 4), (23, 5), (25, 6), (3, 7), (34, 8)]) (by kernel_rfl) h
  rw [show Tryz.prog.cellsOf 36 = 35 from by kernel_rfl] at hl
  obtain ⟨f0, r_0, rfl, h_0⟩ := one_of hl
  obtain ⟨f1, r_1, rfl, h_1⟩ := one_of h_0
  obtain ⟨f2, r_2, rfl, h_2⟩ := one_of h_1
  obtain ⟨f3, r_3, rfl, h_3⟩ := one_of h_2
  obtain ⟨f4, r_4, rfl, h_4⟩ := one_of h_3
  obtain ⟨f5, r_5, rfl, h_5⟩ := one_of h_4
  obtain ⟨f6, r_6, rfl, h_6⟩ := one_of h_5
  obtain ⟨f7, r_7, rfl, h_7⟩ := one_of h_6
  have k0 := hfs 0 _ _ rfl
  have k3 := hfs 3 _ _ rfl
  have k4 := hfs 4 _ _ rfl
  have k5 := hfs 5 _ _ rfl
  have k6 := hfs 6 _ _ rfl
  have k8 := hfs 8 _ _ rfl
  rw [show Tryz.prog.cellsOf 22 = 1 from by kernel_rfl] at k0
  rw [show Tryz.prog.cellsOf 23 = 1 from by kernel_rfl] at k3 k5
  rw [show Tryz.prog.cellsOf 24 = 1 from by kernel_rfl] at k4
  rw [show Tryz.prog.cellsOf 25 = 1 from by kernel_rfl] at k6
  rw [show Tryz.prog.cellsOf 34 = 27 from by kernel_rfl] at k8
  simp only [List.drop_zero, List.drop_succ_cons, List.take_succ_cons, List.take_zero] at k0 k3 k4 k5 k6 k8
  rw [List.take_of_length_le (by omega)] at k8
  obtain ⟨kd, e0, _⟩ := rd_int Tryz.underlying22 k0
  obtain ⟨sv, ls, e3, h3⟩ := rd_terms k3
  obtain ⟨bv, bs, e4, h4⟩ := rd_bools k4
  obtain ⟨kv, st, e5, h5⟩ := rd_terms k5
  obtain ⟨tv0, nt, e6, h6⟩ := rd_tries k6
  obtain ⟨m0, m1, m2, m3, m4, m20, m21, m22, m23, m24, m25, m26, t, u, v, tv, uv, vv, rfl, ht, hu, hv⟩ := rd_machine k8
  cases e0; cases e3; cases e4; cases e5; cases e6
  have okS' : ∀ s : ByteArray, VR rho (bare (memOf w)) (.s (nats s)) (.string s) := fun s => ⟨by rw [bytes_nats], okS_map _⟩
  refine ⟨kd, ls, st, bs, nt, t, u, v, ⟨_, rfl, ?_⟩, trOk_kids h3, h3.len, trOk_kids h5, h5.len, trOk_of ht, trOk_of hu, trOk_of hv⟩
  exact ⟨_, _, rfl, rfl, _, _, rfl, trivial, _, _, rfl, trivial, _, _, rfl, dr_kids h3, _, _, rfl, h4, _, _, rfl, dr_kids h5, _, _, rfl, h6, _, _, rfl, trivial, _, _, rfl, trivial, _, _, rfl, trivial, _, _, rfl, trivial, _, _, rfl, trivial, _, _, rfl, trivial, _, _, rfl, rfl, _, _, rfl, rfl, _, _, rfl, okS' _, _, _, rfl, okS' _, _, _, rfl, dr_kids ht.kids, _, _, rfl, rfl, _, _, rfl, rfl, _, _, rfl, okS' _, _, _, rfl, okS' _, _, _, rfl, dr_kids hu.kids, _, _, rfl, rfl, _, _, rfl, rfl, _, _, rfl, okS' _, _, _, rfl, okS' _, _, _, rfl, dr_kids hv.kids, _, _, rfl, trivial, _, _, rfl, trivial, _, _, rfl, trivial, _, _, rfl, trivial, _, _, rfl, trivial, _, _, rfl, trivial, _, _, rfl, trivial, rfl⟩
theorem rd_code {w : World} {n : Nat} {cs : List Value} (h : Rd Tryz.prog w n 41 cs) : ∃ (op a b : Int), VR rho (bare (memOf w)) (coT op a b) (.agg cs.toArray) ∧ (Lit.int .i64 a).wf = true ∧ (Lit.int .i64 b).wf = true := by
  obtain ⟨m, rfl, hl, hfs⟩ := rd_field Tryz.underlying41 (L := [(22, 0), (3, 1), (3, 2), (27, 3), (39, 8), (37, 13)]) (by kernel_rfl) h
  rw [show Tryz.prog.cellsOf 41 = 14 from by kernel_rfl] at hl
  obtain ⟨c0, r_0, rfl, h_0⟩ := one_of hl
  obtain ⟨c1, r_1, rfl, h_1⟩ := one_of h_0
  obtain ⟨c2, r_2, rfl, h_2⟩ := one_of h_1
  obtain ⟨c3, r_3, rfl, h_3⟩ := one_of h_2
  obtain ⟨c4, r_4, rfl, h_4⟩ := one_of h_3
  obtain ⟨c5, r_5, rfl, h_5⟩ := one_of h_4
  obtain ⟨c6, r_6, rfl, h_6⟩ := one_of h_5
  obtain ⟨c7, r_7, rfl, h_7⟩ := one_of h_6
  obtain ⟨c8, r_8, rfl, h_8⟩ := one_of h_7
  obtain ⟨c9, r_9, rfl, h_9⟩ := one_of h_8
  obtain ⟨c10, r_10, rfl, h_10⟩ := one_of h_9
  obtain ⟨c11, r_11, rfl, h_11⟩ := one_of h_10
  obtain ⟨c12, r_12, rfl, h_12⟩ := one_of h_11
  obtain ⟨c13, r_13, rfl, h_13⟩ := one_of h_12
  obtain rfl := List.eq_nil_of_length_eq_zero h_13
  have k0 := hfs 0 _ _ rfl
  have k1 := hfs 1 _ _ rfl
  have k2 := hfs 2 _ _ rfl
  rw [show Tryz.prog.cellsOf 22 = 1 from by kernel_rfl] at k0
  rw [show Tryz.prog.cellsOf 3 = 1 from by kernel_rfl] at k1 k2
  simp only [List.drop_zero, List.drop_succ_cons, List.take_succ_cons, List.take_zero] at k0 k1 k2
  obtain ⟨op, e0, _⟩ := rd_int Tryz.underlying22 k0
  obtain ⟨a, e1, ha⟩ := rd_int Tryz.underlying3 k1
  obtain ⟨b, e2, hb⟩ := rd_int Tryz.underlying3 k2
  cases e0; cases e1; cases e2
  refine ⟨op, a, b, ⟨_, rfl, ?_⟩, ha, hb⟩
  exact ⟨_, _, rfl, rfl, _, _, rfl, rfl, _, _, rfl, rfl, _, _, rfl, trivial, _, _, rfl, trivial, _, _, rfl, trivial, _, _, rfl, trivial, _, _, rfl, trivial, _, _, rfl, trivial, _, _, rfl, trivial, _, _, rfl, trivial, _, _, rfl, trivial, _, _, rfl, trivial, _, _, rfl, trivial, rfl⟩
end Go.Proofs.YtkieoghkjjkapaaGreatDoor.Rdb
