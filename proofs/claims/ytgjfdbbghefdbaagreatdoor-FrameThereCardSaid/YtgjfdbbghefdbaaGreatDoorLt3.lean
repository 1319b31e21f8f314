/-
  frame.own: a frame in new memory reads as the frame did. Conditions: as said.
-/
import Derived.Test.YtgjfdbbghefdbaaGreatDoorLt2
namespace Go.Proofs.YtgjfdbbghefdbaaGreatDoor.Lt
open Go.RowKit Sx Dd Fa Fa.C1
set_option maxRecDepth 100000
/-- A block of a frame's cells. -/
def Box (b : Nat) (C : Array Value) (W : World) : Prop := W.heap[b]? = some (.cells C 43 (0, 0))
theorem Box.cell {b : Nat} {C : Array Value} {W : World} (h : Box b C W) (o : Nat) : W.cell? ⟨b, o, none⟩ = C[o]? := Sx.cell_at h o
theorem Box.fz {b : Nat} {C : Array Value} {W : World} (h : Box b C W) (o : Nat) : W.frozen? ⟨b, o, none⟩ = false := by
  unfold Box at h
  simp [World.frozen?, h]
theorem Box.below {b : Nat} {C : Array Value} {W W' : World} (h : Box b C W) (hb : Below W.heap.size W W') : Box b C W' := (hb.block b (Array.getElem?_eq_some_iff.1 h).1).trans h
theorem Box.lt {b : Nat} {C : Array Value} {W : World} (h : Box b C W) : b < W.heap.size := (Array.getElem?_eq_some_iff.1 h).1
theorem Box.set {b : Nat} {C : Array Value} {W : World} (h : Box b C W) (o : Nat) (v : Value) : Box b (C.setIfInBounds o v) (W.setCell ⟨b, o, none⟩ v) ∧ (W.setCell ⟨b, o, none⟩ v).heap.size = W.heap.size ∧ (∀ k, k ≠ b → (W.setCell ⟨b, o, none⟩ v).heap[k]? = W.heap[k]?) ∧ ∀ B, B ≤ b → Below B W (W.setCell ⟨b, o, none⟩ v) := by
  obtain ⟨_, h1, h2, h3⟩ := Sx.setCell_at (o := o) h v
  exact ⟨h3, h1, h2, fun B hB => (Below.refl B W).setCell hB v⟩
theorem OwnSl.sl {w : World} {M : Mem} {lo hi T : Nat} {d : Dat} {v : Value} (h : OwnSl w M lo hi T d v) : ∃ r s, v = .slice r d.rows.length s := by
  obtain ⟨xs, h1, _⟩ := h
  rcases h1.2 with ⟨rfl, e⟩ | ⟨g, cap, cur, rfl, _⟩
  · exact ⟨none, 0, by rw [e]⟩
  · exact ⟨_, _, rfl⟩
theorem OwnSl.mono {w : World} {M : Mem} {lo lo' hi hi' T : Nat} {d : Dat} {v : Value} (h : OwnSl w M lo hi T d v) (h1 : lo' ≤ lo) (h2 : hi ≤ hi') : OwnSl w M lo' hi' T d v := by
  obtain ⟨xs, ⟨a1, a2⟩, b, c⟩ := h
  refine ⟨xs, ⟨a1, ?_⟩, fun g hg => Nat.lt_of_lt_of_le (b g hg) h2, c⟩
  rcases a2 with q | ⟨g, cap, cur, q1, q2, q3⟩
  · exact .inl q
  · exact .inr ⟨g, cap, cur, q1, Nat.le_trans h1 q2, q3⟩
theorem setRow_at {w : World} {b : Nat} {c D : Array Value} {T : Nat} (h : w.heap[b]? = some (.cells c T (0, 0))) : (w.setRow b D).heap[b]? = some (.cells D T (0, 0)) := by
  simp [World.setRow, Array.getElem?_modify, h]
theorem setRow_ne {w : World} {b k : Nat} {D : Array Value} (h : k ≠ b) : (w.setRow b D).heap[k]? = w.heap[k]? := by
  simp only [World.setRow, Array.getElem?_modify]
  rw [if_neg (Ne.symm h)]
/-- A frame's rows in memory of the call's own, one block behind the other. -/
def FrOwn (w : World) (M : Mem) (lo hi : Nat) (d3 d4 d5 d6 d28 d33 d34 : Dat) (v3 v4 v5 v6 v28 v33 v34 : Value) : Prop :=
  ∃ a1 a2 a3 a4 a5 a6 : Nat, lo ≤ a1 ∧ a1 ≤ a2 ∧ a2 ≤ a3 ∧ a3 ≤ a4 ∧ a4 ≤ a5 ∧ a5 ≤ a6 ∧ a6 ≤ hi ∧ OwnSl w M lo a1 26 d3 v3 ∧ OwnSl w M a1 a2 4 d4 v4 ∧ OwnSl w M a2 a3 26 d5 v5 ∧ OwnSl w M a3 a4 63 d6 v6 ∧ OwnSl w M a4 a5 89 d28 v28 ∧ OwnSl w M a5 a6 3 d33 v33 ∧ OwnSl w M a6 hi 3 d34 v34
theorem OwnSl.keep {w w' : World} {M : Mem} {lo hi T b : Nat} {d : Dat} {v : Value} (h : OwnSl w M lo hi T d v) (hb : b < lo) (hk : ∀ k, k ≠ b → w'.heap[k]? = w.heap[k]?) : OwnSl w' M lo hi T d v := by
  obtain ⟨xs, h1, h2, h3⟩ := h
  refine ⟨xs, ⟨h1.1, ?_⟩, h2, h3⟩
  rcases h1.2 with q | ⟨g, cap, cur, q1, q2, q3, q4⟩
  · exact .inl q
  · exact .inr ⟨g, cap, cur, q1, q2, (hk g (by omega)).trans q3, q4⟩
set_option maxHeartbeats 4000000 in
theorem own_walk {M : Mem} {w : World} (d3 d4 d5 d6 d28 d33 d34 : Dat) (k0 k1 k2 k7 k8 k9 k10 k11 k12 k13 k14 k18 k19 k23 k24 k29 k30 k31 : Int) (k15 k16 k20 k21 k25 k26 : ByteArray) (p3 p4 p5 p6 p28 p33 p34 p17 p22 p27 p32 : Option Addr) (n3 q3 n4 q4 n5 q5 n6 q6 n28 q28 n33 q33 n34 q34 n17 q17 n22 q22 n27 q27 n32 q32 : Nat) (hM : MemOk M w) (h3 : DR lay M (.sl 26) d3 (.slice p3 n3 q3)) (h4 : DR lay M (.sl 4) d4 (.slice p4 n4 q4)) (h5 : DR lay M (.sl 26) d5 (.slice p5 n5 q5)) (h6 : DR lay M (.sl 63) d6 (.slice p6 n6 q6)) (h28 : DR lay M (.sl 89) d28 (.slice p28 n28 q28)) (h33 : DR lay M (.sl 3) d33 (.slice p33 n33 q33)) (h34 : DR lay M (.sl 3) d34 (.slice p34 n34 q34)) (b3 : d3.rows.length ≤ 1200) (b4 : d4.rows.length ≤ 1200) (b5 : d5.rows.length ≤ 1200) (b6 : d6.rows.length ≤ 1200) (b28 : d28.rows.length ≤ 1200) (b33 : d33.rows.length ≤ 1200) (b34 : d34.rows.length ≤ 1200) :
    Calls Tryz.prog 26 #[.agg #[.int .i8 k0, .int .i64 k1, .int .i64 k2, .slice p3 n3 q3, .slice p4 n4 q4, .slice p5 n5 q5, .slice p6 n6 q6, .int .i64 k7, .int .i8 k8, .int .i64 k9, .int .i64 k10, .int .i64 k11, .int .i64 k12, .int .i8 k13, .int .i64 k14, .string k15, .string k16, .slice p17 n17 q17, .int .i8 k18, .int .i64 k19, .string k20, .string k21, .slice p22 n22 q22, .int .i8 k23, .int .i64 k24, .string k25, .string k26, .slice p27 n27 q27, .slice p28 n28 q28, .int .i8 k29, .int .i64 k30, .int .i64 k31, .slice p32 n32 q32, .slice p33 n33 q33, .slice p34 n34 q34]] w fun e w' => ∃ v3 v4 v5 v6 v28 v33 v34 : Value, e = .returned (.agg #[.int .i8 k0, .int .i64 k1, .int .i64 k2, v3, v4, v5, v6, .int .i64 k7, .int .i8 k8, .int .i64 k9, .int .i64 k10, .int .i64 k11, .int .i64 k12, .int .i8 k13, .int .i64 k14, .string k15, .string k16, .slice p17 n17 q17, .int .i8 k18, .int .i64 k19, .string k20, .string k21, .slice p22 n22 q22, .int .i8 k23, .int .i64 k24, .string k25, .string k26, .slice p27 n27 q27, v28, .int .i8 k29, .int .i64 k30, .int .i64 k31, .slice p32 n32 q32, v33, v34]) ∧ FrOwn w' M w.heap.size w'.heap.size d3 d4 d5 d6 d28 d33 d34 v3 v4 v5 v6 v28 v33 v34 ∧ Below w.heap.size w w' := by
  go_enter Tryz.func26, Tryz.ntmps26
  go_wp2
  obtain ⟨C, hC⟩ : ∃ C : Array Value, C = #[.int .i8 k0, .int .i64 k1, .int .i64 k2, .slice p3 n3 q3, .slice p4 n4 q4, .slice p5 n5 q5, .slice p6 n6 q6, .int .i64 k7, .int .i8 k8, .int .i64 k9, .int .i64 k10, .int .i64 k11, .int .i64 k12, .int .i8 k13, .int .i64 k14, .string k15, .string k16, .slice p17 n17 q17, .int .i8 k18, .int .i64 k19, .string k20, .string k21, .slice p22 n22 q22, .int .i8 k23, .int .i64 k24, .string k25, .string k26, .slice p27 n27 q27, .slice p28 n28 q28, .int .i8 k29, .int .i64 k30, .int .i64 k31, .slice p32 n32 q32, .slice p33 n33 q33, .slice p34 n34 q34] := ⟨_, rfl⟩
  have c0 : C[0]? = some (.int .i8 k0) := by subst hC; rfl
  have c1 : C[1]? = some (.int .i64 k1) := by subst hC; rfl
  have c2 : C[2]? = some (.int .i64 k2) := by subst hC; rfl
  have c3 : C[3]? = some (.slice p3 n3 q3) := by subst hC; rfl
  have c4 : C[4]? = some (.slice p4 n4 q4) := by subst hC; rfl
  have c5 : C[5]? = some (.slice p5 n5 q5) := by subst hC; rfl
  have c6 : C[6]? = some (.slice p6 n6 q6) := by subst hC; rfl
  have c7 : C[7]? = some (.int .i64 k7) := by subst hC; rfl
  have c8 : C[8]? = some (.int .i8 k8) := by subst hC; rfl
  have c9 : C[9]? = some (.int .i64 k9) := by subst hC; rfl
  have c10 : C[10]? = some (.int .i64 k10) := by subst hC; rfl
  have c11 : C[11]? = some (.int .i64 k11) := by subst hC; rfl
  have c12 : C[12]? = some (.int .i64 k12) := by subst hC; rfl
  have c13 : C[13]? = some (.int .i8 k13) := by subst hC; rfl
  have c14 : C[14]? = some (.int .i64 k14) := by subst hC; rfl
  have c15 : C[15]? = some (.string k15) := by subst hC; rfl
  have c16 : C[16]? = some (.string k16) := by subst hC; rfl
  have c17 : C[17]? = some (.slice p17 n17 q17) := by subst hC; rfl
  have c18 : C[18]? = some (.int .i8 k18) := by subst hC; rfl
  have c19 : C[19]? = some (.int .i64 k19) := by subst hC; rfl
  have c20 : C[20]? = some (.string k20) := by subst hC; rfl
  have c21 : C[21]? = some (.string k21) := by subst hC; rfl
  have c22 : C[22]? = some (.slice p22 n22 q22) := by subst hC; rfl
  have c23 : C[23]? = some (.int .i8 k23) := by subst hC; rfl
  have c24 : C[24]? = some (.int .i64 k24) := by subst hC; rfl
  have c25 : C[25]? = some (.string k25) := by subst hC; rfl
  have c26 : C[26]? = some (.string k26) := by subst hC; rfl
  have c27 : C[27]? = some (.slice p27 n27 q27) := by subst hC; rfl
  have c28 : C[28]? = some (.slice p28 n28 q28) := by subst hC; rfl
  have c29 : C[29]? = some (.int .i8 k29) := by subst hC; rfl
  have c30 : C[30]? = some (.int .i64 k30) := by subst hC; rfl
  have c31 : C[31]? = some (.int .i64 k31) := by subst hC; rfl
  have c32 : C[32]? = some (.slice p32 n32 q32) := by subst hC; rfl
  have c33 : C[33]? = some (.slice p33 n33 q33) := by subst hC; rfl
  have c34 : C[34]? = some (.slice p34 n34 q34) := by subst hC; rfl
  have hCs : C.size = 35 := by subst hC; rfl
  have hB0 : Below w.heap.size w ((w.alloc (.cells C 43)).alloc (.cells #[.int .i8 0, .int .i64 0, .int .i64 0, .slice none 0 0, .slice none 0 0, .slice none 0 0, .slice none 0 0, .int .i64 0, .int .i8 0, .int .i64 0, .int .i64 0, .int .i64 0, .int .i64 0, .int .i8 0, .int .i64 0, .string ⟨#[]⟩, .string ⟨#[]⟩, .slice none 0 0, .int .i8 0, .int .i64 0, .string ⟨#[]⟩, .string ⟨#[]⟩, .slice none 0 0, .int .i8 0, .int .i64 0, .string ⟨#[]⟩, .string ⟨#[]⟩, .slice none 0 0, .slice none 0 0, .int .i8 0, .int .i64 0, .int .i64 0, .slice none 0 0, .slice none 0 0, .slice none 0 0] 43)) := ((Below.refl _ w).alloc (Nat.le_refl _) _).alloc (by simp) _
  have hX0 : Box w.heap.size C ((w.alloc (.cells C 43)).alloc (.cells #[.int .i8 0, .int .i64 0, .int .i64 0, .slice none 0 0, .slice none 0 0, .slice none 0 0, .slice none 0 0, .int .i64 0, .int .i8 0, .int .i64 0, .int .i64 0, .int .i64 0, .int .i64 0, .int .i8 0, .int .i64 0, .string ⟨#[]⟩, .string ⟨#[]⟩, .slice none 0 0, .int .i8 0, .int .i64 0, .string ⟨#[]⟩, .string ⟨#[]⟩, .slice none 0 0, .int .i8 0, .int .i64 0, .string ⟨#[]⟩, .string ⟨#[]⟩, .slice none 0 0, .slice none 0 0, .int .i8 0, .int .i64 0, .int .i64 0, .slice none 0 0, .slice none 0 0, .slice none 0 0] 43)) := by
    show ((w.heap.push _).push _)[w.heap.size]? = _
    simp [Array.getElem?_push]
  have hZ0 : Box (w.heap.size + 1) #[.int .i8 0, .int .i64 0, .int .i64 0, .slice none 0 0, .slice none 0 0, .slice none 0 0, .slice none 0 0, .int .i64 0, .int .i8 0, .int .i64 0, .int .i64 0, .int .i64 0, .int .i64 0, .int .i8 0, .int .i64 0, .string ⟨#[]⟩, .string ⟨#[]⟩, .slice none 0 0, .int .i8 0, .int .i64 0, .string ⟨#[]⟩, .string ⟨#[]⟩, .slice none 0 0, .int .i8 0, .int .i64 0, .string ⟨#[]⟩, .string ⟨#[]⟩, .slice none 0 0, .slice none 0 0, .int .i8 0, .int .i64 0, .int .i64 0, .slice none 0 0, .slice none 0 0, .slice none 0 0] ((w.alloc (.cells C 43)).alloc (.cells #[.int .i8 0, .int .i64 0, .int .i64 0, .slice none 0 0, .slice none 0 0, .slice none 0 0, .slice none 0 0, .int .i64 0, .int .i8 0, .int .i64 0, .int .i64 0, .int .i64 0, .int .i64 0, .int .i8 0, .int .i64 0, .string ⟨#[]⟩, .string ⟨#[]⟩, .slice none 0 0, .int .i8 0, .int .i64 0, .string ⟨#[]⟩, .string ⟨#[]⟩, .slice none 0 0, .int .i8 0, .int .i64 0, .string ⟨#[]⟩, .string ⟨#[]⟩, .slice none 0 0, .slice none 0 0, .int .i8 0, .int .i64 0, .int .i64 0, .slice none 0 0, .slice none 0 0, .slice none 0 0] 43)) := by
    show ((w.heap.push _).push _)[w.heap.size + 1]? = _
    rw [show w.heap.size + 1 = (w.heap.push (Obj.cells C 43)).size by simp]
    exact Array.getElem?_push_size
  have hN0 : ((w.alloc (.cells C 43)).alloc (.cells #[.int .i8 0, .int .i64 0, .int .i64 0, .slice none 0 0, .slice none 0 0, .slice none 0 0, .slice none 0 0, .int .i64 0, .int .i8 0, .int .i64 0, .int .i64 0, .int .i64 0, .int .i64 0, .int .i8 0, .int .i64 0, .string ⟨#[]⟩, .string ⟨#[]⟩, .slice none 0 0, .int .i8 0, .int .i64 0, .string ⟨#[]⟩, .string ⟨#[]⟩, .slice none 0 0, .int .i8 0, .int .i64 0, .string ⟨#[]⟩, .string ⟨#[]⟩, .slice none 0 0, .slice none 0 0, .int .i8 0, .int .i64 0, .int .i64 0, .slice none 0 0, .slice none 0 0, .slice none 0 0] 43)).heap.size = w.heap.size + 2 := by simp
  rw [← hC]
  generalize (w.alloc (.cells C 43)).alloc (.cells #[.int .i8 0, .int .i64 0, .int .i64 0, .slice none 0 0, .slice none 0 0, .slice none 0 0, .slice none 0 0, .int .i64 0, .int .i8 0, .int .i64 0, .int .i64 0, .int .i64 0, .int .i64 0, .int .i8 0, .int .i64 0, .string ⟨#[]⟩, .string ⟨#[]⟩, .slice none 0 0, .int .i8 0, .int .i64 0, .string ⟨#[]⟩, .string ⟨#[]⟩, .slice none 0 0, .int .i8 0, .int .i64 0, .string ⟨#[]⟩, .string ⟨#[]⟩, .slice none 0 0, .slice none 0 0, .int .i8 0, .int .i64 0, .int .i64 0, .slice none 0 0, .slice none 0 0, .slice none 0 0] 43) = W0 at hB0 hX0 hZ0 hN0 ⊢
  refine region_late [13, 15, 17, 19] (Box w.heap.size C) (by kernel_rfl) hX0 (fun hHeld => ?_)
  have hB1 : Below w.heap.size w W0.drew := hB0.drew
  have hZ1 : Box (w.heap.size + 1) #[.int .i8 0, .int .i64 0, .int .i64 0, .slice none 0 0, .slice none 0 0, .slice none 0 0, .slice none 0 0, .int .i64 0, .int .i8 0, .int .i64 0, .int .i64 0, .int .i64 0, .int .i64 0, .int .i8 0, .int .i64 0, .string ⟨#[]⟩, .string ⟨#[]⟩, .slice none 0 0, .int .i8 0, .int .i64 0, .string ⟨#[]⟩, .string ⟨#[]⟩, .slice none 0 0, .int .i8 0, .int .i64 0, .string ⟨#[]⟩, .string ⟨#[]⟩, .slice none 0 0, .slice none 0 0, .int .i8 0, .int .i64 0, .int .i64 0, .slice none 0 0, .slice none 0 0, .slice none 0 0] W0.drew := hZ0
  have hX1 : Box w.heap.size C W0.drew := hHeld
  have hN1 : w.heap.size + 2 ≤ W0.drew.heap.size := Nat.le_of_eq hN0.symm
  clear hB0 hX0 hZ0 hN0
  generalize W0.drew = W1 at hHeld hB1 hX1 hZ1 hN1 ⊢
  refine anyL_addr (i := 0) (v := ?_) rfl (by kernel_rfl) (by kernel_rfl) (by kernel_rfl) (fun _ _ _ h => h) (by kernel_rfl) (Or.inl ⟨by rfl, ?_⟩) (by assumption) ?_
  rotate_left 1
  (intro W hSw; go_simp; try with_reducible rfl)
  (try simp only [List.getElem_toArray, List.getElem_cons_zero, Act.put, List.setIfInBounds_toArray, List.set_cons_zero, List.set_cons_succ])
  refine anyL_take (i := 1) (v := ?_) rfl (by kernel_rfl) (by kernel_rfl) (by kernel_rfl) (fun _ _ _ h => h) (by kernel_rfl) (by kernel_rfl) (by kernel_rfl) (Or.inl ⟨by rfl, ?_⟩) (by assumption) ?_
  rotate_left 1
  (intro W hSw; have c := (hSw.cell 3).trans c3; go_simp; try with_reducible rfl)
  (try simp only [List.getElem_toArray, List.getElem_cons_succ, List.getElem_cons_zero, Act.put, List.setIfInBounds_toArray, List.set_cons_zero, List.set_cons_succ])
  refine anyL_addr (i := 3) (v := ?_) rfl (by kernel_rfl) (by kernel_rfl) (by kernel_rfl) (fun _ _ _ h => h) (by kernel_rfl) (Or.inl ⟨by rfl, ?_⟩) (by assumption) ?_
  rotate_left 1
  (intro W hSw; go_simp; try with_reducible rfl)
  (try simp only [List.getElem_toArray, List.getElem_cons_succ, List.getElem_cons_zero, Act.put, List.setIfInBounds_toArray, List.set_cons_zero, List.set_cons_succ])
  refine anyL_take (i := 4) (v := ?_) rfl (by kernel_rfl) (by kernel_rfl) (by kernel_rfl) (fun _ _ _ h => h) (by kernel_rfl) (by kernel_rfl) (by kernel_rfl) (Or.inl ⟨by rfl, ?_⟩) (by assumption) ?_
  rotate_left 1
  (intro W hSw; have c := (hSw.cell 4).trans c4; go_simp; try with_reducible rfl)
  (try simp only [List.getElem_toArray, List.getElem_cons_succ, List.getElem_cons_zero, Act.put, List.setIfInBounds_toArray, List.set_cons_zero, List.set_cons_succ])
  refine anyL_addr (i := 6) (v := ?_) rfl (by kernel_rfl) (by kernel_rfl) (by kernel_rfl) (fun _ _ _ h => h) (by kernel_rfl) (Or.inl ⟨by rfl, ?_⟩) (by assumption) ?_
  rotate_left 1
  (intro W hSw; go_simp; try with_reducible rfl)
  (try simp only [List.getElem_toArray, List.getElem_cons_succ, List.getElem_cons_zero, Act.put, List.setIfInBounds_toArray, List.set_cons_zero, List.set_cons_succ])
  refine anyL_take (i := 7) (v := ?_) rfl (by kernel_rfl) (by kernel_rfl) (by kernel_rfl) (fun _ _ _ h => h) (by kernel_rfl) (by kernel_rfl) (by kernel_rfl) (Or.inl ⟨by rfl, ?_⟩) (by assumption) ?_
  rotate_left 1
  (intro W hSw; have c := (hSw.cell 5).trans c5; go_simp; try with_reducible rfl)
  (try simp only [List.getElem_toArray, List.getElem_cons_succ, List.getElem_cons_zero, Act.put, List.setIfInBounds_toArray, List.set_cons_zero, List.set_cons_succ])
  refine anyL_addr (i := 9) (v := ?_) rfl (by kernel_rfl) (by kernel_rfl) (by kernel_rfl) (fun _ _ _ h => h) (by kernel_rfl) (Or.inl ⟨by rfl, ?_⟩) (by assumption) ?_
  rotate_left 1
  (intro W hSw; go_simp; try with_reducible rfl)
  (try simp only [List.getElem_toArray, List.getElem_cons_succ, List.getElem_cons_zero, Act.put, List.setIfInBounds_toArray, List.set_cons_zero, List.set_cons_succ])
  refine anyL_take (i := 10) (v := ?_) rfl (by kernel_rfl) (by kernel_rfl) (by kernel_rfl) (fun _ _ _ h => h) (by kernel_rfl) (by kernel_rfl) (by kernel_rfl) (Or.inl ⟨by rfl, ?_⟩) (by assumption) ?_
  rotate_left 1
  (intro W hSw; have c := (hSw.cell 6).trans c6; go_simp; try with_reducible rfl)
  (try simp only [List.getElem_toArray, List.getElem_cons_succ, List.getElem_cons_zero, Act.put, List.setIfInBounds_toArray, List.set_cons_zero, List.set_cons_succ])
  refine anyL_one (i := 2) (by kernel_rfl) rfl (fun K hK => ?_)
  go_simp
  refine (cloneT_any (memOk_below hM hB1) h3 b3).mono ?_
  rintro e W103 ⟨v3, rfl, o3, hb3⟩
  dsimp only
  refine hK.out _ _ (fun _ => hX1.below hb3) (fun hHeld => ?_)
  replace hHeld := hHeld (noB_spec (by kernel_rfl))
  clear hK K
  (try simp only [List.getElem_toArray, List.getElem_cons_succ, List.getElem_cons_zero, Act.put, List.setIfInBounds_toArray, List.set_cons_zero, List.set_cons_succ])
  have hX103 := hX1.below hb3
  have hZ103 := hZ1.below hb3
  have hB103 := hB1.trans (hb3.mono hB1.size)
  have hN103 := Nat.le_trans hN1 hb3.size
  obtain ⟨r3, s3, e3⟩ := o3.sl
  subst e3
  refine anyL_addr (i := 12) (v := ?_) rfl (by kernel_rfl) (by kernel_rfl) (by kernel_rfl) (fun _ _ _ h => h) (by kernel_rfl) (Or.inl ⟨by rfl, ?_⟩) (by assumption) ?_
  rotate_left 1
  (intro W hSw; go_simp; try with_reducible rfl)
  (try simp only [List.getElem_toArray, List.getElem_cons_succ, List.getElem_cons_zero, Act.put, List.setIfInBounds_toArray, List.set_cons_zero, List.set_cons_succ])
  refine anyL_one (i := 5) (by kernel_rfl) rfl (fun K hK => ?_)
  go_simp
  refine (cloneB_any (memOk_below hM hB103) h4 b4).mono ?_
  rintro e W104 ⟨v4, rfl, o4, hb4⟩
  dsimp only
  refine hK.out _ _ (fun _ => hX103.below hb4) (fun hHeld => ?_)
  replace hHeld := hHeld (noB_spec (by kernel_rfl))
  clear hK K
  (try simp only [List.getElem_toArray, List.getElem_cons_succ, List.getElem_cons_zero, Act.put, List.setIfInBounds_toArray, List.set_cons_zero, List.set_cons_succ])
  have hX104 := hX103.below hb4
  have hZ104 := hZ103.below hb4
  have hB104 := hB103.trans (hb4.mono hB103.size)
  have hN104 := Nat.le_trans hN103 hb4.size
  obtain ⟨r4, s4, e4⟩ := o4.sl
  subst e4
  refine anyL_one (i := 8) (by kernel_rfl) rfl (fun K hK => ?_)
  go_simp
  refine (cloneT_any (memOk_below hM hB104) h5 b5).mono ?_
  rintro e W105 ⟨v5, rfl, o5, hb5⟩
  dsimp only
  refine hK.out _ _ (fun _ => hX104.below hb5) (fun hHeld => ?_)
  replace hHeld := hHeld (noB_spec (by kernel_rfl))
  clear hK K
  (try simp only [List.getElem_toArray, List.getElem_cons_succ, List.getElem_cons_zero, Act.put, List.setIfInBounds_toArray, List.set_cons_zero, List.set_cons_succ])
  have hX105 := hX104.below hb5
  have hZ105 := hZ104.below hb5
  have hB105 := hB104.trans (hb5.mono hB104.size)
  have hN105 := Nat.le_trans hN104 hb5.size
  obtain ⟨r5, s5, e5⟩ := o5.sl
  subst e5
  refine anyL_one (i := 11) (by kernel_rfl) rfl (fun K hK => ?_)
  go_simp
  refine (cloneY_any (memOk_below hM hB105) h6 b6).mono ?_
  rintro e W106 ⟨v6, rfl, o6, hb6⟩
  dsimp only
  refine hK.out _ _ (fun _ => hX105.below hb6) (fun hHeld => ?_)
  replace hHeld := hHeld (noB_spec (by kernel_rfl))
  clear hK K
  (try simp only [List.getElem_toArray, List.getElem_cons_succ, List.getElem_cons_zero, Act.put, List.setIfInBounds_toArray, List.set_cons_zero, List.set_cons_succ])
  have hX106 := hX105.below hb6
  have hZ106 := hZ105.below hb6
  have hB106 := hB105.trans (hb6.mono hB105.size)
  have hN106 := Nat.le_trans hN105 hb6.size
  obtain ⟨r6, s6, e6⟩ := o6.sl
  subst e6
  have cc := (hX106.cell 3).trans (show (C)[3]? = some (.slice p3 n3 q3) by rw [hC]; rfl)
  have cf := hX106.fz 3
  refine anyL_one (i := 13) (by kernel_rfl) rfl (fun K hK => ?_)
  go_simp
  clear cc cf
  refine hK.out _ _ (fun hno => by exact Bool.noConfusion ((hno 13 (by decide)).symm.trans (show _ = true by kernel_rfl))) (fun _ => ?_)
  clear hK K
  (try simp only [List.getElem_toArray, List.getElem_cons_succ, List.getElem_cons_zero, Act.put, List.setIfInBounds_toArray, List.set_cons_zero, List.set_cons_succ])
  obtain ⟨hX113, hS113, hk113, hW113⟩ := hX106.set 3 (.slice r3 d3.rows.length s3)
  have hZ113 : Box (w.heap.size + 1) #[.int .i8 0, .int .i64 0, .int .i64 0, .slice none 0 0, .slice none 0 0, .slice none 0 0, .slice none 0 0, .int .i64 0, .int .i8 0, .int .i64 0, .int .i64 0, .int .i64 0, .int .i64 0, .int .i8 0, .int .i64 0, .string ⟨#[]⟩, .string ⟨#[]⟩, .slice none 0 0, .int .i8 0, .int .i64 0, .string ⟨#[]⟩, .string ⟨#[]⟩, .slice none 0 0, .int .i8 0, .int .i64 0, .string ⟨#[]⟩, .string ⟨#[]⟩, .slice none 0 0, .slice none 0 0, .int .i8 0, .int .i64 0, .int .i64 0, .slice none 0 0, .slice none 0 0, .slice none 0 0] (W106.setCell ⟨w.heap.size, 3, none⟩ (.slice r3 d3.rows.length s3)) := (hk113 _ (by omega)).trans hZ106
  have hB113 := hB106.trans (hW113 _ (Nat.le_refl _))
  have hN113 : w.heap.size + 2 ≤ (W106.setCell ⟨w.heap.size, 3, none⟩ (.slice r3 d3.rows.length s3)).heap.size := by rw [hS113]; exact hN106
  have hkk113 : ∀ k, k ≠ w.heap.size → (W106.setCell ⟨w.heap.size, 3, none⟩ (.slice r3 d3.rows.length s3)).heap[k]? = W106.heap[k]? := hk113
  have hL113 := Nat.le_of_eq hS113.symm
  clear hW113 hk113 hS113
  generalize W106.setCell ⟨w.heap.size, 3, none⟩ (.slice r3 d3.rows.length s3) = W113 at hX113 hZ113 hB113 hN113 hkk113 hL113 ⊢
  refine anyL_one (i := 14) (by kernel_rfl) rfl (fun K hK => ?_)
  go_simp
  refine hK.out _ _ (fun hno => by exact Bool.noConfusion ((hno 13 (by decide)).symm.trans (show _ = true by kernel_rfl))) (fun _ => ?_)
  clear hK K
  (try simp only [List.getElem_toArray, List.getElem_cons_succ, List.getElem_cons_zero, Act.put, List.setIfInBounds_toArray, List.set_cons_zero, List.set_cons_succ])
  have cc := (hX113.cell 4).trans (show (C.setIfInBounds 3 (.slice r3 d3.rows.length s3))[4]? = some (.slice p4 n4 q4) by rw [hC]; rfl)
  have cf := hX113.fz 4
  refine anyL_one (i := 15) (by kernel_rfl) rfl (fun K hK => ?_)
  go_simp
  clear cc cf
  refine hK.out _ _ (fun hno => by exact Bool.noConfusion ((hno 15 (by decide)).symm.trans (show _ = true by kernel_rfl))) (fun _ => ?_)
  clear hK K
  (try simp only [List.getElem_toArray, List.getElem_cons_succ, List.getElem_cons_zero, Act.put, List.setIfInBounds_toArray, List.set_cons_zero, List.set_cons_succ])
  obtain ⟨hX114, hS114, hk114, hW114⟩ := hX113.set 4 (.slice r4 d4.rows.length s4)
  have hZ114 : Box (w.heap.size + 1) #[.int .i8 0, .int .i64 0, .int .i64 0, .slice none 0 0, .slice none 0 0, .slice none 0 0, .slice none 0 0, .int .i64 0, .int .i8 0, .int .i64 0, .int .i64 0, .int .i64 0, .int .i64 0, .int .i8 0, .int .i64 0, .string ⟨#[]⟩, .string ⟨#[]⟩, .slice none 0 0, .int .i8 0, .int .i64 0, .string ⟨#[]⟩, .string ⟨#[]⟩, .slice none 0 0, .int .i8 0, .int .i64 0, .string ⟨#[]⟩, .string ⟨#[]⟩, .slice none 0 0, .slice none 0 0, .int .i8 0, .int .i64 0, .int .i64 0, .slice none 0 0, .slice none 0 0, .slice none 0 0] (W113.setCell ⟨w.heap.size, 4, none⟩ (.slice r4 d4.rows.length s4)) := (hk114 _ (by omega)).trans hZ113
  have hB114 := hB113.trans (hW114 _ (Nat.le_refl _))
  have hN114 : w.heap.size + 2 ≤ (W113.setCell ⟨w.heap.size, 4, none⟩ (.slice r4 d4.rows.length s4)).heap.size := by rw [hS114]; exact hN113
  have hkk114 : ∀ k, k ≠ w.heap.size → (W113.setCell ⟨w.heap.size, 4, none⟩ (.slice r4 d4.rows.length s4)).heap[k]? = W113.heap[k]? := hk114
  have hL114 := Nat.le_of_eq hS114.symm
  clear hW114 hk114 hS114
  generalize W113.setCell ⟨w.heap.size, 4, none⟩ (.slice r4 d4.rows.length s4) = W114 at hX114 hZ114 hB114 hN114 hkk114 hL114 ⊢
  refine anyL_one (i := 16) (by kernel_rfl) rfl (fun K hK => ?_)
  go_simp
  refine hK.out _ _ (fun hno => by exact Bool.noConfusion ((hno 13 (by decide)).symm.trans (show _ = true by kernel_rfl))) (fun _ => ?_)
  clear hK K
  (try simp only [List.getElem_toArray, List.getElem_cons_succ, List.getElem_cons_zero, Act.put, List.setIfInBounds_toArray, List.set_cons_zero, List.set_cons_succ])
  have cc := (hX114.cell 5).trans (show ((C.setIfInBounds 3 (.slice r3 d3.rows.length s3)).setIfInBounds 4 (.slice r4 d4.rows.length s4))[5]? = some (.slice p5 n5 q5) by rw [hC]; rfl)
  have cf := hX114.fz 5
  refine anyL_one (i := 17) (by kernel_rfl) rfl (fun K hK => ?_)
  go_simp
  clear cc cf
  refine hK.out _ _ (fun hno => by exact Bool.noConfusion ((hno 17 (by decide)).symm.trans (show _ = true by kernel_rfl))) (fun _ => ?_)
  clear hK K
  (try simp only [List.getElem_toArray, List.getElem_cons_succ, List.getElem_cons_zero, Act.put, List.setIfInBounds_toArray, List.set_cons_zero, List.set_cons_succ])
  obtain ⟨hX115, hS115, hk115, hW115⟩ := hX114.set 5 (.slice r5 d5.rows.length s5)
  have hZ115 : Box (w.heap.size + 1) #[.int .i8 0, .int .i64 0, .int .i64 0, .slice none 0 0, .slice none 0 0, .slice none 0 0, .slice none 0 0, .int .i64 0, .int .i8 0, .int .i64 0, .int .i64 0, .int .i64 0, .int .i64 0, .int .i8 0, .int .i64 0, .string ⟨#[]⟩, .string ⟨#[]⟩, .slice none 0 0, .int .i8 0, .int .i64 0, .string ⟨#[]⟩, .string ⟨#[]⟩, .slice none 0 0, .int .i8 0, .int .i64 0, .string ⟨#[]⟩, .string ⟨#[]⟩, .slice none 0 0, .slice none 0 0, .int .i8 0, .int .i64 0, .int .i64 0, .slice none 0 0, .slice none 0 0, .slice none 0 0] (W114.setCell ⟨w.heap.size, 5, none⟩ (.slice r5 d5.rows.length s5)) := (hk115 _ (by omega)).trans hZ114
  have hB115 := hB114.trans (hW115 _ (Nat.le_refl _))
  have hN115 : w.heap.size + 2 ≤ (W114.setCell ⟨w.heap.size, 5, none⟩ (.slice r5 d5.rows.length s5)).heap.size := by rw [hS115]; exact hN114
  have hkk115 : ∀ k, k ≠ w.heap.size → (W114.setCell ⟨w.heap.size, 5, none⟩ (.slice r5 d5.rows.length s5)).heap[k]? = W114.heap[k]? := hk115
  have hL115 := Nat.le_of_eq hS115.symm
  clear hW115 hk115 hS115
  generalize W114.setCell ⟨w.heap.size, 5, none⟩ (.slice r5 d5.rows.length s5) = W115 at hX115 hZ115 hB115 hN115 hkk115 hL115 ⊢
  refine anyL_one (i := 18) (by kernel_rfl) rfl (fun K hK => ?_)
  go_simp
  refine hK.out _ _ (fun hno => by exact Bool.noConfusion ((hno 13 (by decide)).symm.trans (show _ = true by kernel_rfl))) (fun _ => ?_)
  clear hK K
  (try simp only [List.getElem_toArray, List.getElem_cons_succ, List.getElem_cons_zero, Act.put, List.setIfInBounds_toArray, List.set_cons_zero, List.set_cons_succ])
  have cc := (hX115.cell 6).trans (show (((C.setIfInBounds 3 (.slice r3 d3.rows.length s3)).setIfInBounds 4 (.slice r4 d4.rows.length s4)).setIfInBounds 5 (.slice r5 d5.rows.length s5))[6]? = some (.slice p6 n6 q6) by rw [hC]; rfl)
  have cf := hX115.fz 6
  refine anyL_one (i := 19) (by kernel_rfl) rfl (fun K hK => ?_)
  go_simp
  clear cc cf
  refine hK.out _ _ (fun hno => by exact Bool.noConfusion ((hno 19 (by decide)).symm.trans (show _ = true by kernel_rfl))) (fun _ => ?_)
  clear hK K
  (try simp only [List.getElem_toArray, List.getElem_cons_succ, List.getElem_cons_zero, Act.put, List.setIfInBounds_toArray, List.set_cons_zero, List.set_cons_succ])
  obtain ⟨hX116, hS116, hk116, hW116⟩ := hX115.set 6 (.slice r6 d6.rows.length s6)
  have hZ116 : Box (w.heap.size + 1) #[.int .i8 0, .int .i64 0, .int .i64 0, .slice none 0 0, .slice none 0 0, .slice none 0 0, .slice none 0 0, .int .i64 0, .int .i8 0, .int .i64 0, .int .i64 0, .int .i64 0, .int .i64 0, .int .i8 0, .int .i64 0, .string ⟨#[]⟩, .string ⟨#[]⟩, .slice none 0 0, .int .i8 0, .int .i64 0, .string ⟨#[]⟩, .string ⟨#[]⟩, .slice none 0 0, .int .i8 0, .int .i64 0, .string ⟨#[]⟩, .string ⟨#[]⟩, .slice none 0 0, .slice none 0 0, .int .i8 0, .int .i64 0, .int .i64 0, .slice none 0 0, .slice none 0 0, .slice none 0 0] (W115.setCell ⟨w.heap.size, 6, none⟩ (.slice r6 d6.rows.length s6)) := (hk116 _ (by omega)).trans hZ115
  have hB116 := hB115.trans (hW116 _ (Nat.le_refl _))
  have hN116 : w.heap.size + 2 ≤ (W115.setCell ⟨w.heap.size, 6, none⟩ (.slice r6 d6.rows.length s6)).heap.size := by rw [hS116]; exact hN115
  have hkk116 : ∀ k, k ≠ w.heap.size → (W115.setCell ⟨w.heap.size, 6, none⟩ (.slice r6 d6.rows.length s6)).heap[k]? = W115.heap[k]? := hk116
  have hL116 := Nat.le_of_eq hS116.symm
  clear hW116 hk116 hS116
  generalize W115.setCell ⟨w.heap.size, 6, none⟩ (.slice r6 d6.rows.length s6) = W116 at hX116 hZ116 hB116 hN116 hkk116 hL116 ⊢
  refine anyL_done (by kernel_rfl) ?_ _
  go_wp2
  obtain ⟨D, hD⟩ : ∃ D : Array Value, D = #[.int .i8 k0, .int .i64 k1, .int .i64 k2, .slice r3 d3.rows.length s3, .slice r4 d4.rows.length s4, .slice r5 d5.rows.length s5, .slice r6 d6.rows.length s6, .int .i64 k7, .int .i8 k8, .int .i64 k9, .int .i64 k10, .int .i64 k11, .int .i64 k12, .int .i8 k13, .int .i64 k14, .string k15, .string k16, .slice p17 n17 q17, .int .i8 k18, .int .i64 k19, .string k20, .string k21, .slice p22 n22 q22, .int .i8 k23, .int .i64 k24, .string k25, .string k26, .slice p27 n27 q27, .slice p28 n28 q28, .int .i8 k29, .int .i64 k30, .int .i64 k31, .slice p32 n32 q32, .slice p33 n33 q33, .slice p34 n34 q34] := ⟨_, rfl⟩
  rw [show (((C.setIfInBounds 3 (.slice r3 d3.rows.length s3)).setIfInBounds 4 (.slice r4 d4.rows.length s4)).setIfInBounds 5 (.slice r5 d5.rows.length s5)).setIfInBounds 6 (.slice r6 d6.rows.length s6) = D by rw [hC, hD]; rfl] at hX116
  refine region_late [14, 17, 20] (Box w.heap.size D) (by kernel_rfl) hX116 (fun hHeld => ?_)
  have hB117 : Below w.heap.size w W116.drew := hB116.drew
  have hZ117 : Box (w.heap.size + 1) #[.int .i8 0, .int .i64 0, .int .i64 0, .slice none 0 0, .slice none 0 0, .slice none 0 0, .slice none 0 0, .int .i64 0, .int .i8 0, .int .i64 0, .int .i64 0, .int .i64 0, .int .i64 0, .int .i8 0, .int .i64 0, .string ⟨#[]⟩, .string ⟨#[]⟩, .slice none 0 0, .int .i8 0, .int .i64 0, .string ⟨#[]⟩, .string ⟨#[]⟩, .slice none 0 0, .int .i8 0, .int .i64 0, .string ⟨#[]⟩, .string ⟨#[]⟩, .slice none 0 0, .slice none 0 0, .int .i8 0, .int .i64 0, .int .i64 0, .slice none 0 0, .slice none 0 0, .slice none 0 0] W116.drew := hZ116
  have hX117 : Box w.heap.size D W116.drew := hHeld
  have hN117 : w.heap.size + 2 ≤ W116.drew.heap.size := hN116
  have hkk117 : ∀ k, k ≠ w.heap.size → W116.drew.heap[k]? = W116.heap[k]? := fun _ _ => rfl
  have hL117 : W116.heap.size ≤ W116.drew.heap.size := Nat.le_refl _
  generalize W116.drew = W117 at hHeld hB117 hX117 hZ117 hN117 hkk117 hL117 ⊢
  refine anyL_addr (i := 0) (v := ?_) rfl (by kernel_rfl) (by kernel_rfl) (by kernel_rfl) (fun _ _ _ h => h) (by kernel_rfl) (Or.inl ⟨by rfl, ?_⟩) (by assumption) ?_
  rotate_left 1
  (intro W hSw; go_simp; try with_reducible rfl)
  (try simp only [List.getElem_toArray, List.getElem_cons_zero, Act.put, List.setIfInBounds_toArray, List.set_cons_zero, List.set_cons_succ])
  refine anyL_addr (i := 1) (v := ?_) rfl (by kernel_rfl) (by kernel_rfl) (by kernel_rfl) (fun _ _ _ h => h) (by kernel_rfl) (Or.inl ⟨by rfl, ?_⟩) (by assumption) ?_
  rotate_left 1
  (intro W hSw; go_simp; try with_reducible rfl)
  (try simp only [List.getElem_toArray, List.getElem_cons_succ, List.getElem_cons_zero, Act.put, List.setIfInBounds_toArray, List.set_cons_zero, List.set_cons_succ])
  refine anyL_take (i := 2) (v := ?_) rfl (by kernel_rfl) (by kernel_rfl) (by kernel_rfl) (fun _ _ _ h => h) (by kernel_rfl) (by kernel_rfl) (by kernel_rfl) (Or.inl ⟨by rfl, ?_⟩) (by assumption) ?_
  rotate_left 1
  (intro W hSw; have c := (hSw.cell 28).trans (show D[28]? = some (.slice p28 n28 q28) by rw [hD]; rfl); go_simp; try with_reducible rfl)
  (try simp only [List.getElem_toArray, List.getElem_cons_succ, List.getElem_cons_zero, Act.put, List.setIfInBounds_toArray, List.set_cons_zero, List.set_cons_succ])
  refine anyL_addr (i := 4) (v := ?_) rfl (by kernel_rfl) (by kernel_rfl) (by kernel_rfl) (fun _ _ _ h => h) (by kernel_rfl) (Or.inl ⟨by rfl, ?_⟩) (by assumption) ?_
  rotate_left 1
  (intro W hSw; go_simp; try with_reducible rfl)
  (try simp only [List.getElem_toArray, List.getElem_cons_succ, List.getElem_cons_zero, Act.put, List.setIfInBounds_toArray, List.set_cons_zero, List.set_cons_succ])
  refine anyL_addr (i := 5) (v := ?_) rfl (by kernel_rfl) (by kernel_rfl) (by kernel_rfl) (fun _ _ _ h => h) (by kernel_rfl) (Or.inl ⟨by rfl, ?_⟩) (by assumption) ?_
  rotate_left 1
  (intro W hSw; go_simp; try with_reducible rfl)
  (try simp only [List.getElem_toArray, List.getElem_cons_succ, List.getElem_cons_zero, Act.put, List.setIfInBounds_toArray, List.set_cons_zero, List.set_cons_succ])
  refine anyL_take (i := 6) (v := ?_) rfl (by kernel_rfl) (by kernel_rfl) (by kernel_rfl) (fun _ _ _ h => h) (by kernel_rfl) (by kernel_rfl) (by kernel_rfl) (Or.inl ⟨by rfl, ?_⟩) (by assumption) ?_
  rotate_left 1
  (intro W hSw; have c := (hSw.cell 33).trans (show D[33]? = some (.slice p33 n33 q33) by rw [hD]; rfl); go_simp; try with_reducible rfl)
  (try simp only [List.getElem_toArray, List.getElem_cons_succ, List.getElem_cons_zero, Act.put, List.setIfInBounds_toArray, List.set_cons_zero, List.set_cons_succ])
  refine anyL_addr (i := 8) (v := ?_) rfl (by kernel_rfl) (by kernel_rfl) (by kernel_rfl) (fun _ _ _ h => h) (by kernel_rfl) (Or.inl ⟨by rfl, ?_⟩) (by assumption) ?_
  rotate_left 1
  (intro W hSw; go_simp; try with_reducible rfl)
  (try simp only [List.getElem_toArray, List.getElem_cons_succ, List.getElem_cons_zero, Act.put, List.setIfInBounds_toArray, List.set_cons_zero, List.set_cons_succ])
  refine anyL_addr (i := 9) (v := ?_) rfl (by kernel_rfl) (by kernel_rfl) (by kernel_rfl) (fun _ _ _ h => h) (by kernel_rfl) (Or.inl ⟨by rfl, ?_⟩) (by assumption) ?_
  rotate_left 1
  (intro W hSw; go_simp; try with_reducible rfl)
  (try simp only [List.getElem_toArray, List.getElem_cons_succ, List.getElem_cons_zero, Act.put, List.setIfInBounds_toArray, List.set_cons_zero, List.set_cons_succ])
  refine anyL_take (i := 10) (v := ?_) rfl (by kernel_rfl) (by kernel_rfl) (by kernel_rfl) (fun _ _ _ h => h) (by kernel_rfl) (by kernel_rfl) (by kernel_rfl) (Or.inl ⟨by rfl, ?_⟩) (by assumption) ?_
  rotate_left 1
  (intro W hSw; have c := (hSw.cell 34).trans (show D[34]? = some (.slice p34 n34 q34) by rw [hD]; rfl); go_simp; try with_reducible rfl)
  (try simp only [List.getElem_toArray, List.getElem_cons_succ, List.getElem_cons_zero, Act.put, List.setIfInBounds_toArray, List.set_cons_zero, List.set_cons_succ])
  refine anyL_one (i := 3) (by kernel_rfl) rfl (fun K hK => ?_)
  go_simp
  refine (cloneR_any (memOk_below hM hB117) h28 b28).mono ?_
  rintro e W128 ⟨v28, rfl, o28, hb28⟩
  dsimp only
  refine hK.out _ _ (fun _ => hX117.below hb28) (fun hHeld => ?_)
  replace hHeld := hHeld (noB_spec (by kernel_rfl))
  clear hK K
  (try simp only [List.getElem_toArray, List.getElem_cons_succ, List.getElem_cons_zero, Act.put, List.setIfInBounds_toArray, List.set_cons_zero, List.set_cons_succ])
  have hX128 := hX117.below hb28
  have hZ128 := hZ117.below hb28
  have hB128 := hB117.trans (hb28.mono hB117.size)
  have hN128 := Nat.le_trans hN117 hb28.size
  obtain ⟨r28, s28, e28⟩ := o28.sl
  subst e28
  refine anyL_addr (i := 12) (v := ?_) rfl (by kernel_rfl) (by kernel_rfl) (by kernel_rfl) (fun _ _ _ h => h) (by kernel_rfl) (Or.inl ⟨by rfl, ?_⟩) (by assumption) ?_
  rotate_left 1
  (intro W hSw; go_simp; try with_reducible rfl)
  (try simp only [List.getElem_toArray, List.getElem_cons_succ, List.getElem_cons_zero, Act.put, List.setIfInBounds_toArray, List.set_cons_zero, List.set_cons_succ])
  refine anyL_addr (i := 13) (v := ?_) rfl (by kernel_rfl) (by kernel_rfl) (by kernel_rfl) (fun _ _ _ h => h) (by kernel_rfl) (Or.inl ⟨by rfl, ?_⟩) (by assumption) ?_
  rotate_left 1
  (intro W hSw; go_simp; try with_reducible rfl)
  (try simp only [List.getElem_toArray, List.getElem_cons_succ, List.getElem_cons_zero, Act.put, List.setIfInBounds_toArray, List.set_cons_zero, List.set_cons_succ])
  refine anyL_one (i := 7) (by kernel_rfl) rfl (fun K hK => ?_)
  go_simp
  refine (cloneI_any (memOk_below hM hB128) h33 b33).mono ?_
  rintro e W133 ⟨v33, rfl, o33, hb33⟩
  dsimp only
  refine hK.out _ _ (fun _ => hX128.below hb33) (fun hHeld => ?_)
  replace hHeld := hHeld (noB_spec (by kernel_rfl))
  clear hK K
  (try simp only [List.getElem_toArray, List.getElem_cons_succ, List.getElem_cons_zero, Act.put, List.setIfInBounds_toArray, List.set_cons_zero, List.set_cons_succ])
  have hX133 := hX128.below hb33
  have hZ133 := hZ128.below hb33
  have hB133 := hB128.trans (hb33.mono hB128.size)
  have hN133 := Nat.le_trans hN128 hb33.size
  obtain ⟨r33, s33, e33⟩ := o33.sl
  subst e33
  refine anyL_one (i := 11) (by kernel_rfl) rfl (fun K hK => ?_)
  go_simp
  refine (cloneI_any (memOk_below hM hB133) h34 b34).mono ?_
  rintro e W134 ⟨v34, rfl, o34, hb34⟩
  dsimp only
  refine hK.out _ _ (fun _ => hX133.below hb34) (fun hHeld => ?_)
  replace hHeld := hHeld (noB_spec (by kernel_rfl))
  clear hK K
  (try simp only [List.getElem_toArray, List.getElem_cons_succ, List.getElem_cons_zero, Act.put, List.setIfInBounds_toArray, List.set_cons_zero, List.set_cons_succ])
  have hX134 := hX133.below hb34
  have hZ134 := hZ133.below hb34
  have hB134 := hB133.trans (hb34.mono hB133.size)
  have hN134 := Nat.le_trans hN133 hb34.size
  obtain ⟨r34, s34, e34⟩ := o34.sl
  subst e34
  have cc := (hX134.cell 28).trans (show (D)[28]? = some (.slice p28 n28 q28) by rw [hD]; rfl)
  have cf := hX134.fz 28
  refine anyL_one (i := 14) (by kernel_rfl) rfl (fun K hK => ?_)
  go_simp
  clear cc cf
  refine hK.out _ _ (fun hno => by exact Bool.noConfusion ((hno 14 (by decide)).symm.trans (show _ = true by kernel_rfl))) (fun _ => ?_)
  clear hK K
  (try simp only [List.getElem_toArray, List.getElem_cons_succ, List.getElem_cons_zero, Act.put, List.setIfInBounds_toArray, List.set_cons_zero, List.set_cons_succ])
  obtain ⟨hX141, hS141, hk141, hW141⟩ := hX134.set 28 (.slice r28 d28.rows.length s28)
  have hZ141 : Box (w.heap.size + 1) #[.int .i8 0, .int .i64 0, .int .i64 0, .slice none 0 0, .slice none 0 0, .slice none 0 0, .slice none 0 0, .int .i64 0, .int .i8 0, .int .i64 0, .int .i64 0, .int .i64 0, .int .i64 0, .int .i8 0, .int .i64 0, .string ⟨#[]⟩, .string ⟨#[]⟩, .slice none 0 0, .int .i8 0, .int .i64 0, .string ⟨#[]⟩, .string ⟨#[]⟩, .slice none 0 0, .int .i8 0, .int .i64 0, .string ⟨#[]⟩, .string ⟨#[]⟩, .slice none 0 0, .slice none 0 0, .int .i8 0, .int .i64 0, .int .i64 0, .slice none 0 0, .slice none 0 0, .slice none 0 0] (W134.setCell ⟨w.heap.size, 28, none⟩ (.slice r28 d28.rows.length s28)) := (hk141 _ (by omega)).trans hZ134
  have hB141 := hB134.trans (hW141 _ (Nat.le_refl _))
  have hN141 : w.heap.size + 2 ≤ (W134.setCell ⟨w.heap.size, 28, none⟩ (.slice r28 d28.rows.length s28)).heap.size := by rw [hS141]; exact hN134
  have hkk141 : ∀ k, k ≠ w.heap.size → (W134.setCell ⟨w.heap.size, 28, none⟩ (.slice r28 d28.rows.length s28)).heap[k]? = W134.heap[k]? := hk141
  have hL141 := Nat.le_of_eq hS141.symm
  clear hW141 hk141 hS141
  generalize W134.setCell ⟨w.heap.size, 28, none⟩ (.slice r28 d28.rows.length s28) = W141 at hX141 hZ141 hB141 hN141 hkk141 hL141 ⊢
  refine anyL_one (i := 15) (by kernel_rfl) rfl (fun K hK => ?_)
  go_simp
  refine hK.out _ _ (fun hno => by exact Bool.noConfusion ((hno 14 (by decide)).symm.trans (show _ = true by kernel_rfl))) (fun _ => ?_)
  clear hK K
  (try simp only [List.getElem_toArray, List.getElem_cons_succ, List.getElem_cons_zero, Act.put, List.setIfInBounds_toArray, List.set_cons_zero, List.set_cons_succ])
  refine anyL_one (i := 16) (by kernel_rfl) rfl (fun K hK => ?_)
  go_simp
  refine hK.out _ _ (fun hno => by exact Bool.noConfusion ((hno 14 (by decide)).symm.trans (show _ = true by kernel_rfl))) (fun _ => ?_)
  clear hK K
  (try simp only [List.getElem_toArray, List.getElem_cons_succ, List.getElem_cons_zero, Act.put, List.setIfInBounds_toArray, List.set_cons_zero, List.set_cons_succ])
  have cc := (hX141.cell 33).trans (show (D.setIfInBounds 28 (.slice r28 d28.rows.length s28))[33]? = some (.slice p33 n33 q33) by rw [hD]; rfl)
  have cf := hX141.fz 33
  refine anyL_one (i := 17) (by kernel_rfl) rfl (fun K hK => ?_)
  go_simp
  clear cc cf
  refine hK.out _ _ (fun hno => by exact Bool.noConfusion ((hno 17 (by decide)).symm.trans (show _ = true by kernel_rfl))) (fun _ => ?_)
  clear hK K
  (try simp only [List.getElem_toArray, List.getElem_cons_succ, List.getElem_cons_zero, Act.put, List.setIfInBounds_toArray, List.set_cons_zero, List.set_cons_succ])
  obtain ⟨hX142, hS142, hk142, hW142⟩ := hX141.set 33 (.slice r33 d33.rows.length s33)
  have hZ142 : Box (w.heap.size + 1) #[.int .i8 0, .int .i64 0, .int .i64 0, .slice none 0 0, .slice none 0 0, .slice none 0 0, .slice none 0 0, .int .i64 0, .int .i8 0, .int .i64 0, .int .i64 0, .int .i64 0, .int .i64 0, .int .i8 0, .int .i64 0, .string ⟨#[]⟩, .string ⟨#[]⟩, .slice none 0 0, .int .i8 0, .int .i64 0, .string ⟨#[]⟩, .string ⟨#[]⟩, .slice none 0 0, .int .i8 0, .int .i64 0, .string ⟨#[]⟩, .string ⟨#[]⟩, .slice none 0 0, .slice none 0 0, .int .i8 0, .int .i64 0, .int .i64 0, .slice none 0 0, .slice none 0 0, .slice none 0 0] (W141.setCell ⟨w.heap.size, 33, none⟩ (.slice r33 d33.rows.length s33)) := (hk142 _ (by omega)).trans hZ141
  have hB142 := hB141.trans (hW142 _ (Nat.le_refl _))
  have hN142 : w.heap.size + 2 ≤ (W141.setCell ⟨w.heap.size, 33, none⟩ (.slice r33 d33.rows.length s33)).heap.size := by rw [hS142]; exact hN141
  have hkk142 : ∀ k, k ≠ w.heap.size → (W141.setCell ⟨w.heap.size, 33, none⟩ (.slice r33 d33.rows.length s33)).heap[k]? = W141.heap[k]? := hk142
  have hL142 := Nat.le_of_eq hS142.symm
  clear hW142 hk142 hS142
  generalize W141.setCell ⟨w.heap.size, 33, none⟩ (.slice r33 d33.rows.length s33) = W142 at hX142 hZ142 hB142 hN142 hkk142 hL142 ⊢
  refine anyL_one (i := 18) (by kernel_rfl) rfl (fun K hK => ?_)
  go_simp
  refine hK.out _ _ (fun hno => by exact Bool.noConfusion ((hno 14 (by decide)).symm.trans (show _ = true by kernel_rfl))) (fun _ => ?_)
  clear hK K
  (try simp only [List.getElem_toArray, List.getElem_cons_succ, List.getElem_cons_zero, Act.put, List.setIfInBounds_toArray, List.set_cons_zero, List.set_cons_succ])
  refine anyL_one (i := 19) (by kernel_rfl) rfl (fun K hK => ?_)
  go_simp
  refine hK.out _ _ (fun hno => by exact Bool.noConfusion ((hno 14 (by decide)).symm.trans (show _ = true by kernel_rfl))) (fun _ => ?_)
  clear hK K
  (try simp only [List.getElem_toArray, List.getElem_cons_succ, List.getElem_cons_zero, Act.put, List.setIfInBounds_toArray, List.set_cons_zero, List.set_cons_succ])
  have cc := (hX142.cell 34).trans (show ((D.setIfInBounds 28 (.slice r28 d28.rows.length s28)).setIfInBounds 33 (.slice r33 d33.rows.length s33))[34]? = some (.slice p34 n34 q34) by rw [hD]; rfl)
  have cf := hX142.fz 34
  refine anyL_one (i := 20) (by kernel_rfl) rfl (fun K hK => ?_)
  go_simp
  clear cc cf
  refine hK.out _ _ (fun hno => by exact Bool.noConfusion ((hno 20 (by decide)).symm.trans (show _ = true by kernel_rfl))) (fun _ => ?_)
  clear hK K
  (try simp only [List.getElem_toArray, List.getElem_cons_succ, List.getElem_cons_zero, Act.put, List.setIfInBounds_toArray, List.set_cons_zero, List.set_cons_succ])
  obtain ⟨hX143, hS143, hk143, hW143⟩ := hX142.set 34 (.slice r34 d34.rows.length s34)
  have hZ143 : Box (w.heap.size + 1) #[.int .i8 0, .int .i64 0, .int .i64 0, .slice none 0 0, .slice none 0 0, .slice none 0 0, .slice none 0 0, .int .i64 0, .int .i8 0, .int .i64 0, .int .i64 0, .int .i64 0, .int .i64 0, .int .i8 0, .int .i64 0, .string ⟨#[]⟩, .string ⟨#[]⟩, .slice none 0 0, .int .i8 0, .int .i64 0, .string ⟨#[]⟩, .string ⟨#[]⟩, .slice none 0 0, .int .i8 0, .int .i64 0, .string ⟨#[]⟩, .string ⟨#[]⟩, .slice none 0 0, .slice none 0 0, .int .i8 0, .int .i64 0, .int .i64 0, .slice none 0 0, .slice none 0 0, .slice none 0 0] (W142.setCell ⟨w.heap.size, 34, none⟩ (.slice r34 d34.rows.length s34)) := (hk143 _ (by omega)).trans hZ142
  have hB143 := hB142.trans (hW143 _ (Nat.le_refl _))
  have hN143 : w.heap.size + 2 ≤ (W142.setCell ⟨w.heap.size, 34, none⟩ (.slice r34 d34.rows.length s34)).heap.size := by rw [hS143]; exact hN142
  have hkk143 : ∀ k, k ≠ w.heap.size → (W142.setCell ⟨w.heap.size, 34, none⟩ (.slice r34 d34.rows.length s34)).heap[k]? = W142.heap[k]? := hk143
  have hL143 := Nat.le_of_eq hS143.symm
  clear hW143 hk143 hS143
  generalize W142.setCell ⟨w.heap.size, 34, none⟩ (.slice r34 d34.rows.length s34) = W143 at hX143 hZ143 hB143 hN143 hkk143 hL143 ⊢
  refine anyL_done (by kernel_rfl) ?_ _
  obtain ⟨F, hF⟩ : ∃ D : Array Value, D = #[.int .i8 k0, .int .i64 k1, .int .i64 k2, .slice r3 d3.rows.length s3, .slice r4 d4.rows.length s4, .slice r5 d5.rows.length s5, .slice r6 d6.rows.length s6, .int .i64 k7, .int .i8 k8, .int .i64 k9, .int .i64 k10, .int .i64 k11, .int .i64 k12, .int .i8 k13, .int .i64 k14, .string k15, .string k16, .slice p17 n17 q17, .int .i8 k18, .int .i64 k19, .string k20, .string k21, .slice p22 n22 q22, .int .i8 k23, .int .i64 k24, .string k25, .string k26, .slice p27 n27 q27, .slice r28 d28.rows.length s28, .int .i8 k29, .int .i64 k30, .int .i64 k31, .slice p32 n32 q32, .slice r33 d33.rows.length s33, .slice r34 d34.rows.length s34] := ⟨_, rfl⟩
  rw [show ((D.setIfInBounds 28 (.slice r28 d28.rows.length s28)).setIfInBounds 33 (.slice r33 d33.rows.length s33)).setIfInBounds 34 (.slice r34 d34.rows.length s34) = F by rw [hD, hF]; rfl] at hX143
  have hFs : (Tryz.prog.info? 43).map (·.size) = some F.size := by rw [hF]; kernel_rfl
  have hF1 : F.all (·.oneCell') = true := by rw [hF]; first | kernel_rfl | simp [Value.oneCell']
  have hF2 : (#[.int .i8 0, .int .i64 0, .int .i64 0, .slice none 0 0, .slice none 0 0, .slice none 0 0, .slice none 0 0, .int .i64 0, .int .i8 0, .int .i64 0, .int .i64 0, .int .i64 0, .int .i64 0, .int .i8 0, .int .i64 0, .string ⟨#[]⟩, .string ⟨#[]⟩, .slice none 0 0, .int .i8 0, .int .i64 0, .string ⟨#[]⟩, .string ⟨#[]⟩, .slice none 0 0, .int .i8 0, .int .i64 0, .string ⟨#[]⟩, .string ⟨#[]⟩, .slice none 0 0, .slice none 0 0, .int .i8 0, .int .i64 0, .int .i64 0, .slice none 0 0, .slice none 0 0, .slice none 0 0] : Array Value).size = F.size := by rw [hF]; rfl
  have HF := Lib.hid hF
  clear hF hD hC
  apply_assumption
  refine wp_seq_k (fun K hGo => ?_)
  refine wp_region_lit ?_
  refine wpList_load_row rfl 43 _ rfl w.heap.size rfl 43 F (0, 0) _ hX143 Tryz.underlying43 rfl hFs ?_
  try dsimp only [Act.put]
  refine wpList_store_row rfl 43 _ _ rfl (w.heap.size + 1) F rfl rfl 43 _ hZ143 hFs hF2 hF1 ?_
  refine wpList_nil ?_
  try dsimp only [Act.put]
  apply hGo
  clear hGo K
  go_step
  have hF := HF.out
  have hr : (W143.setRow (w.heap.size + 1) F).heap[w.heap.size + 1]? = some (.cells F 43 (0, 0)) := setRow_at hZ143
  refine bodyPost_ret (v := .agg F) (results_cell_row Tryz.results26 _ _ (w.heap.size + 1) 43 F (0, 0) _ rfl hr Tryz.underlying43 rfl (by first | exact hFs | exact hF2 | (rw [hF]; kernel_rfl))) rfl ?_
  have hk : ∀ k, k ≠ w.heap.size + 1 → (W143.setRow (w.heap.size + 1) F).heap[k]? = W143.heap[k]? := fun k h => setRow_ne h
  have hsz : (W143.setRow (w.heap.size + 1) F).heap.size = W143.heap.size := by simp [World.setRow]
  have q3 := ((((((((((((o3.below hb4).below hb5).below hb6).keep (by omega) hkk113).keep (by omega) hkk114).keep (by omega) hkk115).keep (by omega) hkk116).keep (by omega) hkk117).below hb28).below hb33).below hb34).keep (by omega) hkk141).keep (by omega) hkk142
  have q4 := (((((((((((o4.below hb5).below hb6).keep (by omega) hkk113).keep (by omega) hkk114).keep (by omega) hkk115).keep (by omega) hkk116).keep (by omega) hkk117).below hb28).below hb33).below hb34).keep (by omega) hkk141).keep (by omega) hkk142
  have q5 := ((((((((((o5.below hb6).keep (by omega) hkk113).keep (by omega) hkk114).keep (by omega) hkk115).keep (by omega) hkk116).keep (by omega) hkk117).below hb28).below hb33).below hb34).keep (by omega) hkk141).keep (by omega) hkk142
  have q6 := (((((((((o6.keep (by omega) hkk113).keep (by omega) hkk114).keep (by omega) hkk115).keep (by omega) hkk116).keep (by omega) hkk117).below hb28).below hb33).below hb34).keep (by omega) hkk141).keep (by omega) hkk142
  have q28 := (((o28.below hb33).below hb34).keep (by omega) hkk141).keep (by omega) hkk142
  have q33 := ((o33.below hb34).keep (by omega) hkk141).keep (by omega) hkk142
  have q34 := (o34.keep (by omega) hkk141).keep (by omega) hkk142
  have g3 := (q3.keep (by omega) hkk143).keep (by omega) hk
  have g4 := (q4.keep (by omega) hkk143).keep (by omega) hk
  have g5 := (q5.keep (by omega) hkk143).keep (by omega) hk
  have g6 := (q6.keep (by omega) hkk143).keep (by omega) hk
  have g28 := (q28.keep (by omega) hkk143).keep (by omega) hk
  have g33 := (q33.keep (by omega) hkk143).keep (by omega) hk
  have g34 := (q34.keep (by omega) hkk143).keep (by omega) hk
  have s3 := hb3.size
  have s4 := hb4.size
  have s5 := hb5.size
  have s6 := hb6.size
  have s28 := hb28.size
  have s33 := hb33.size
  have s34 := hb34.size
  subst hF
  exact ⟨_, _, _, _, _, _, _, rfl, ⟨_, _, _, _, _, _, by omega, by omega, by omega, by omega, by omega, by omega, by omega, g3.mono (by omega) (Nat.le_refl _), g4, g5, g6.mono (Nat.le_refl _) (by omega), g28.mono (Nat.le_refl _) (Nat.le_refl _), g33, g34.mono (Nat.le_refl _) (by omega)⟩, hB143.trans ⟨rfl, rfl, rfl, by rw [hsz]; exact Nat.le_refl _, fun k hk' => hk k (by omega)⟩⟩
end Go.Proofs.YtgjfdbbghefdbaaGreatDoor.Lt
