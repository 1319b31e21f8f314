/-
  pleachlaw25.SpecRestarts. Conditions: the table of letters and the type of errors are laid.
-/
import Derived.Test.YtdjafnjmkkagjaaGreatDoorSp4
import Derived.Test.YtdjafnjmkkagjaaGreatDoorWk1
namespace Go.Proofs.YtdjafnjmkkagjaaGreatDoor.Rdb
open Go.RowKit

theorem atom_tr (s : ByteArray) (hs : s.size ≤ 64) (w : World) : TrV (fun _ => True) w (.mk 1 0 s ⟨#[]⟩ []) (.slice none 0 0) :=
  ⟨⟨show (Lit.int .i8 1).wf = true from by decide, show (Lit.int .i64 0).wf = true from by decide, by show s.size ≤ _; unfold BL; omega, by show (0 : Nat) ≤ _; omega⟩, Kids.nil _ _⟩
theorem rest0 (x : Tr) : restB 0 x = true := rfl
theorem rest1 (x : Tr) : restB 1 x = !normB x := by simp [restB]
theorem rest2 (x : Tr) : restB 2 x = false := by simp [restB]
theorem norm_shut : normB (.mk 1 0 ⟨#[115, 104, 117, 116, 100, 111, 119, 110]⟩ ⟨#[]⟩ []) = true := by kernel_rfl
theorem norm_kill : normB (.mk 1 0 ⟨#[107, 105, 108, 108, 101, 100]⟩ ⟨#[]⟩ []) = false := by kernel_rfl

/-- Where the two parameters lie. -/
structure LAt (w W : World) (C T : Array Value) : Prop where
  c : W.heap[w.heap.size]? = some (.cells C 28 (0, 0))
  t : W.heap[w.heap.size + 1]? = some (.cells T 25 (0, 0))
  b : Below w.heap.size w W
theorem LAt.call {w W W' : World} {C T : Array Value} (h : LAt w W C T) (hb : Below W.heap.size W W') : LAt w W' C T :=
  ⟨(hb.block _ (Array.getElem?_eq_some_iff.1 h.c).1).trans h.c, (hb.block _ (Array.getElem?_eq_some_iff.1 h.t).1).trans h.t, h.b.trans (hb.mono h.b.size)⟩
theorem LAt.set {w W : World} {C T : Array Value} (h : LAt w W C T) (v : Value) : LAt w (W.setCell ⟨w.heap.size, 6, none⟩ v) (C.setIfInBounds 6 v) T := by
  obtain ⟨s0, s1, s2, s3⟩ := Sx.setCell_at (o := 6) h.c v
  exact ⟨s3, (s2 _ (by omega)).trans h.t, ⟨s0.1.trans h.b.os, s0.2.1.trans h.b.tape, s0.2.2.trans h.b.output, by rw [s1]; exact h.b.size, fun k hk => (s2 k (by omega)).trans (h.b.block k hk)⟩⟩
theorem LAt.cc {w W : World} {v0 v1 v2 v3 v4 v5 v6 v7 v8 v9 v10 v11 : Value} {T : Array Value} (h : LAt w W #[v0, v1, v2, v3, v4, v5, v6, v7, v8, v9, v10, v11] T) :
    W.cell? ⟨w.heap.size, 0, none⟩ = some v0 ∧ W.cell? ⟨w.heap.size, 1, none⟩ = some v1 ∧ W.cell? ⟨w.heap.size, 2, none⟩ = some v2 ∧ W.cell? ⟨w.heap.size, 3, none⟩ = some v3 ∧ W.cell? ⟨w.heap.size, 4, none⟩ = some v4 ∧ W.cell? ⟨w.heap.size, 5, none⟩ = some v5 ∧
    W.cell? ⟨w.heap.size, 6, none⟩ = some v6 ∧ W.cell? ⟨w.heap.size, 7, none⟩ = some v7 ∧ W.cell? ⟨w.heap.size, 8, none⟩ = some v8 ∧ W.cell? ⟨w.heap.size, 9, none⟩ = some v9 ∧ W.cell? ⟨w.heap.size, 10, none⟩ = some v10 ∧ W.cell? ⟨w.heap.size, 11, none⟩ = some v11 := by
  refine ⟨?_, ?_, ?_, ?_, ?_, ?_, ?_, ?_, ?_, ?_, ?_, ?_⟩ <;> exact Sx.cell_at h.c _
theorem LAt.tt {w W : World} {C : Array Value} {v0 v1 v2 v3 v4 : Value} (h : LAt w W C #[v0, v1, v2, v3, v4]) :
    W.cell? ⟨w.heap.size + 1, 0, none⟩ = some v0 ∧ W.cell? ⟨w.heap.size + 1, 1, none⟩ = some v1 ∧ W.cell? ⟨w.heap.size + 1, 2, none⟩ = some v2 ∧ W.cell? ⟨w.heap.size + 1, 3, none⟩ = some v3 ∧ W.cell? ⟨w.heap.size + 1, 4, none⟩ = some v4 := by
  refine ⟨?_, ?_, ?_, ?_, ?_⟩ <;> exact Sx.cell_at h.t _
theorem LAt.fz {w W : World} {C T : Array Value} (h : LAt w W C T) (o : Nat) : W.frozen? ⟨w.heap.size, o, none⟩ = false := by simp [World.frozen?, h.c]

set_option maxRecDepth 100000 in
theorem atom_any (w : World) (s : ByteArray) : Calls Tryz.prog 15 #[.string s] w fun e w' => e = .returned (.agg #[.int .i8 1, .int .i64 0, .string s, .string ⟨#[]⟩, .slice none 0 0]) ∧ Below w.heap.size w w' := by
  go_enter Tryz.func15, Tryz.ntmps15
  go_wp2
  refine bodyPost_ret (v := .agg #[.int .i8 1, .int .i64 0, .string s, .string ⟨#[]⟩, .slice none 0 0]) (by simp only [results, Tryz.results15]; go_simp) rfl ?_
  exact ⟨rfl, alloc_below _ _⟩
set_option maxHeartbeats 2000000 in
set_option maxRecDepth 100000 in
theorem specRestarts_any {w : World} {n : Nat} {cs : List Value} {x : Tr} {sv : Value} (hL : ∀ (j : Nat) (v : Value), Sx.letterVals[j]? = some v → w.cell? ⟨1, j, none⟩ = some v) (hE : w.cell? ⟨0, 0, none⟩ = some (.iface 232 (.agg #[Sx.errH])))
    (h : Rd Tryz.prog w n 28 cs) (hx : TrV (fun _ => True) w x sv) :
    Calls Tryz.prog 3 #[.agg cs.toArray, .agg #[.int .i8 x.k, .int .i64 x.n, .string x.s, .string x.t, sv]] w fun e w' => e = .returned (.bool true) ∧ Below w.heap.size w w' := by
  have cG := fun W (hb : Below w.heap.size w W) => great25_any (h.keep hb)
  have cT := fun W (hb : Below w.heap.size w W) => greatT_any (hx.below hb)
  have cN := fun W (hb : Below w.heap.size w W) => normal_any (hx.below hb)
  have cR0 := fun W (hb : Below w.heap.size w W) v0 v1 v2 v3 v4 v5 v6 v7 v8 v9 v10 => restart_any (hx.below hb) v0 v1 v2 v3 v4 v5 v6 v7 v8 v9 v10 0
  simp only [rest0] at cR0
  have cR1 := fun W (hb : Below w.heap.size w W) v0 v1 v2 v3 v4 v5 v6 v7 v8 v9 v10 => restart_any (hx.below hb) v0 v1 v2 v3 v4 v5 v6 v7 v8 v9 v10 1
  simp only [rest1] at cR1
  have cR2 := fun W (hb : Below w.heap.size w W) v0 v1 v2 v3 v4 v5 v6 v7 v8 v9 v10 => restart_any (hx.below hb) v0 v1 v2 v3 v4 v5 v6 v7 v8 v9 v10 2
  simp only [rest2] at cR2
  have cS1 := fun W => normal_any (atom_tr ⟨#[115, 104, 117, 116, 100, 111, 119, 110]⟩ (by decide) W)
  have cS2 := fun W => normal_any (atom_tr ⟨#[107, 105, 108, 108, 101, 100]⟩ (by decide) W)
  rw [norm_shut] at cS1
  rw [norm_kill] at cS2
  generalize normB x = B at cN cR1
  have cW : ∀ W, Below w.heap.size w W → Calls Tryz.prog 12 #[] W fun e w' => e = .returned (.bool true) ∧ Below W.heap.size W w' := fun W hb =>
    Sx.wakes_told (fun j v hj => (hb.cell (p := ⟨_, j, none⟩) (cell_lt (hL j v hj))).trans (hL j v hj)) ((hb.cell (p := ⟨_, 0, none⟩) (cell_lt hE)).trans hE)
  obtain ⟨m, y, yv, kd, rs, sh, mn, fn, av, la, uv, hm, rfl, _⟩ := rd_child h
  clear h hx hL hE
  go_enter Tryz.func3, Tryz.ntmps3
  go_upto_region 1 with fail
  have hA0 : LAt w ((w.alloc (.cells #[.int .i8 y.k, .int .i64 y.n, .string y.s, .string y.t, yv, .int .i8 kd, .int .i8 rs, .int .i64 sh, .string mn, .string fn, av, uv] 28)).alloc (.cells #[.int .i8 x.k, .int .i64 x.n, .string x.s, .string x.t, sv] 25)) #[.int .i8 y.k, .int .i64 y.n, .string y.s, .string y.t, yv, .int .i8 kd, .int .i8 rs, .int .i64 sh, .string mn, .string fn, av, uv] #[.int .i8 x.k, .int .i64 x.n, .string x.s, .string x.t, sv] :=
    ⟨(Sx.alloc_old _ _ (by rw [Sx.alloc_size]; omega)).trans (Sx.alloc_new _ _), by have := Sx.alloc_new (w.alloc (.cells #[.int .i8 y.k, .int .i64 y.n, .string y.s, .string y.t, yv, .int .i8 kd, .int .i8 rs, .int .i64 sh, .string mn, .string fn, av, uv] 28)) (.cells #[.int .i8 x.k, .int .i64 x.n, .string x.s, .string x.t, sv] 25); rwa [Sx.alloc_size] at this, (alloc_below w _).trans ((alloc_below (w.alloc _) _).mono (alloc_below w _).size)⟩
  generalize (w.alloc (.cells #[.int .i8 y.k, .int .i64 y.n, .string y.s, .string y.t, yv, .int .i8 kd, .int .i8 rs, .int .i64 sh, .string mn, .string fn, av, uv] 28)).alloc (.cells #[.int .i8 x.k, .int .i64 x.n, .string x.s, .string x.t, sv] 25) = w1 at hA0 ⊢
  obtain ⟨c0, c1, c2, c3, c4, c5, c6, c7, c8, c9, c10, c11⟩ := hA0.cc
  obtain ⟨t0, t1, t2, t3, t4⟩ := hA0.tt
  go_upto_region 3 with (first
    | (go_at_call 10; refine (cG _ hA0.b).mono ?_; rintro e w2 ⟨⟨b2, rfl⟩, hb2⟩; have hA2 := hA0.call hb2; obtain ⟨u0, u1, u2, u3, u4⟩ := hA2.tt)
    | (go_at_call 11; refine (cT _ hA2.b).mono ?_; rintro e w3 ⟨rfl, hb3⟩; have hA3 := hA2.call hb3)
    | (go_at_call 12; refine (cW _ hA3.b).mono ?_; rintro e w4 ⟨rfl, hb4⟩)
    | (go_at_call 12; refine (cW _ hA2.b).mono ?_; rintro e w4 ⟨rfl, hb4⟩))
  all_goals first
    | (go_ret; first | exact ⟨rfl, hA3.b.trans (hb4.mono hA3.b.size)⟩ | exact ⟨rfl, hA2.b.trans (hb4.mono hA2.b.size)⟩)
    | skip
  have z0 := hA3.fz 6
  obtain ⟨d0_0, d0_1, d0_2, d0_3, d0_4, d0_5, d0_6, d0_7, d0_8, d0_9, d0_10, d0_11⟩ := hA3.cc
  have hS0 : LAt w (w3.setCell ⟨w.heap.size, 6, none⟩ (.int .i8 0)) #[.int .i8 y.k, .int .i64 y.n, .string y.s, .string y.t, yv, .int .i8 kd, .int .i8 0, .int .i64 sh, .string mn, .string fn, av, uv] #[.int .i8 x.k, .int .i64 x.n, .string x.s, .string x.t, sv] := hA3.set _
  go_upto_region 4 with fail
  generalize w3.setCell ⟨w.heap.size, 6, none⟩ (.int .i8 0) = x0 at hS0 ⊢
  clear z0 d0_0 d0_1 d0_2 d0_3 d0_4 d0_5 d0_6 d0_7 d0_8 d0_9 d0_10 d0_11
  obtain ⟨e0_0, e0_1, e0_2, e0_3, e0_4, e0_5, e0_6, e0_7, e0_8, e0_9, e0_10, e0_11⟩ := hS0.cc
  obtain ⟨f0_0, f0_1, f0_2, f0_3, f0_4⟩ := hS0.tt
  go_upto_region 5 with (go_at_call 13; refine (cR0 _ hS0.b _ _ _ _ _ _ _ _ _ _ _).mono ?_; rintro e y0 ⟨rfl, hby0⟩; have hT0 := hS0.call hby0)
  have z1 := hT0.fz 6
  obtain ⟨d1_0, d1_1, d1_2, d1_3, d1_4, d1_5, d1_6, d1_7, d1_8, d1_9, d1_10, d1_11⟩ := hT0.cc
  have hS1 : LAt w (y0.setCell ⟨w.heap.size, 6, none⟩ (.int .i8 1)) #[.int .i8 y.k, .int .i64 y.n, .string y.s, .string y.t, yv, .int .i8 kd, .int .i8 1, .int .i64 sh, .string mn, .string fn, av, uv] #[.int .i8 x.k, .int .i64 x.n, .string x.s, .string x.t, sv] := hT0.set _
  go_upto_region 6 with fail
  generalize y0.setCell ⟨w.heap.size, 6, none⟩ (.int .i8 1) = x1 at hS1 ⊢
  clear z1 d1_0 d1_1 d1_2 d1_3 d1_4 d1_5 d1_6 d1_7 d1_8 d1_9 d1_10 d1_11
  obtain ⟨e1_0, e1_1, e1_2, e1_3, e1_4, e1_5, e1_6, e1_7, e1_8, e1_9, e1_10, e1_11⟩ := hS1.cc
  obtain ⟨f1_0, f1_1, f1_2, f1_3, f1_4⟩ := hS1.tt
  go_upto_region 7 with (go_at_call 13; refine (cR1 _ hS1.b _ _ _ _ _ _ _ _ _ _ _).mono ?_; rintro e y1 ⟨rfl, hby1⟩; have hT1 := hS1.call hby1)
  have z2 := hT1.fz 6
  obtain ⟨d2_0, d2_1, d2_2, d2_3, d2_4, d2_5, d2_6, d2_7, d2_8, d2_9, d2_10, d2_11⟩ := hT1.cc
  have hS2 : LAt w (y1.setCell ⟨w.heap.size, 6, none⟩ (.int .i8 2)) #[.int .i8 y.k, .int .i64 y.n, .string y.s, .string y.t, yv, .int .i8 kd, .int .i8 2, .int .i64 sh, .string mn, .string fn, av, uv] #[.int .i8 x.k, .int .i64 x.n, .string x.s, .string x.t, sv] := hT1.set _
  go_upto_region 8 with fail
  generalize y1.setCell ⟨w.heap.size, 6, none⟩ (.int .i8 2) = x2 at hS2 ⊢
  clear z2 d2_0 d2_1 d2_2 d2_3 d2_4 d2_5 d2_6 d2_7 d2_8 d2_9 d2_10 d2_11
  obtain ⟨e2_0, e2_1, e2_2, e2_3, e2_4, e2_5, e2_6, e2_7, e2_8, e2_9, e2_10, e2_11⟩ := hS2.cc
  obtain ⟨f2_0, f2_1, f2_2, f2_3, f2_4⟩ := hS2.tt
  go_upto_region 9 with (go_at_call 13; refine (cR2 _ hS2.b _ _ _ _ _ _ _ _ _ _ _).mono ?_; rintro e y2 ⟨rfl, hby2⟩; have hT2 := hS2.call hby2)
  obtain ⟨k0, k1, k2, k3, k4⟩ := hT2.tt
  have tokA : True := trivial
  have tokB : True := trivial
  cases B <;> (
    go_wp2_with (first
      | (go_at_call 14; have _t := tokA; refine (cN _ hT2.b).mono ?_; rintro e w6 ⟨rfl, hb6⟩; have hT6 := hT2.call hb6; clear tokA)
      | (go_at_call 15; have _t := tokB; refine (atom_any _ _).mono ?_; rintro e a6 ⟨rfl, hba6⟩; have hR6 := hT6.call hba6)
      | (go_at_call 15; refine (atom_any _ _).mono ?_; rintro e a7 ⟨rfl, hba7⟩; have hR7 := hT7.call hba7)
      | (go_at_call 14; have _t := tokB; refine (cS1 _).mono ?_; rintro e w7 ⟨rfl, hb7⟩; have hT7 := hR6.call hb7; clear tokB)
      | (go_at_call 14; refine (cS2 _).mono ?_; rintro e w8 ⟨rfl, hb8⟩; have hT8 := hR7.call hb8)
      | (go_at_call 12; refine (cW _ hT8.b).mono ?_; rintro e w9 ⟨rfl, hb9⟩))
    go_ret
    exact ⟨rfl, hT8.b.trans (hb9.mono hT8.b.size)⟩)
end Go.Proofs.YtdjafnjmkkagjaaGreatDoor.Rdb
