/-
  FrameThere, where a code frame lies below: it is true. Conditions: as said.
-/
import Derived.Test.YtgjfdbbghefdbaaGreatDoorLt16a
import Derived.Deep.Cut
namespace Go.Proofs.YtgjfdbbghefdbaaGreatDoor.Lt
open Go.RowKit Sx Dd Fa Fa.B1 Fa.C1
set_option maxRecDepth 100000
theorem memOf_mono {W W' : World} (h : Below W.heap.size W W') : (memOf W).le (memOf W') := le_mem (memOk_below (memOf_ok W) h)
theorem told_mono {W W' : World} (h : Below W.heap.size W W') (hT : ToldM rho.tl (memOf W)) : ToldM rho.tl (memOf W') := fun p hp => by
  obtain ⟨c, h1, h2⟩ := hT p hp
  exact ⟨c, memOf_mono h _ _ h1, h2⟩
/-- A contract over data that tells a truth, at a world. -/
theorem pu_b {f : Nat} {args : List TV} {x : Bool} (h : Pu f args (.b x)) {W : World} (hT : ToldM rho.tl (memOf W)) {vs : Array Value} (hv : VRs rho (bare (memOf W)) args vs.toList) : Calls Tryz.prog f vs W fun e W' => e = .returned (.bool x) ∧ Below W.heap.size W W' :=
  (h.2 W _ vs (memOf_ok W) hT hv).mono fun _ _ ⟨_, _, e1, _, _, _, e2, e3⟩ => ⟨by rw [e1, show _ = Value.bool x from e2], e3⟩
theorem wpList_load_g {P : Program} {ops : Array Oper} {rest : List Oper} {op : Oper} {a : Act} {w : World} {Q : Exit → Act → World → Prop} (hgd : Region.wanted op (yielded ops a.tmps) = true) (ty : TypeId) (x : Operand) (ho : op.op = .load ty x)
    (b o : Nat) (hx : a.eval x = .pointer (some ⟨b, o, none⟩)) (cs : List Value) (d : TypeDesc) (hc : w.rangeAt b o cs)
    (hu : P.underlying ty = some d) (hd : d.isRow = true) (hi : (P.info? ty).map (·.size) = some cs.length)
    (h : wpList P ops Q rest (a.put op.dst (.agg cs.toArray)) w) : wpList P ops Q (op :: rest) a w :=
  wpList_step fun _ hK => by
    rw [if_pos hgd]
    exact wp_load_mid ty x ho b o hx cs d hc hu hd hi (hK _ _ h)
theorem frame_size {cs : List Value} (h : cs.length = 35) : (Tryz.prog.info? 43).map (·.size) = some cs.length := by rw [h]; kernel_rfl
theorem term_size {cs : List Value} (h : cs.length = 5) : (Tryz.prog.info? 26).map (·.size) = some cs.length := by rw [h]; kernel_rfl
theorem box_range {b : Nat} {C : List Value} {W : World} (h : Box b C.toArray W) : W.rangeAt b 0 C := fun j v hv => by
  rw [Nat.zero_add]
  exact (h.cell j).trans (by simpa using hv)
theorem boxT_range {b : Nat} {C : Array Value} {W : World} (h : BoxT b C W) : W.rangeAt b 0 C.toList := fun j v hv => by
  rw [Nat.zero_add]
  exact (h.cell j).trans (by simpa using hv)
theorem cell_block {w : World} {g o : Nat} {v : Value} (h : w.cell? ⟨g, o, none⟩ = some v) : g < w.heap.size := by
  unfold World.cell? at h
  simp only at h
  split at h
  · rename_i e
    exact (Array.getElem?_eq_some_iff.1 e).1
  · cases h
theorem range_below {W W' : World} {b o : Nat} {cs : List Value} (h : W.rangeAt b o cs) (hb : Below W.heap.size W W') : W'.rangeAt b o cs := fun j v hv => by
  have := h j v hv
  exact (hb.cell (p := ⟨b, o + j, none⟩) (cell_block this)).trans this
theorem StIn.below {M : Mem} {s : Nat} {w w' : World} {B n k : Nat} {rows : List (List Dat)} {f : Nat → Value} (h : StIn M s w B n k rows f) (hb : Below w.heap.size w w') : StIn M s w' B n k rows f :=
  ⟨row_below h.row hb, h.kn, fun i hi => by
    obtain ⟨r, r1, r2⟩ := h.good i hi
    refine ⟨r, r1, good_mono (fun b c e => ?_) r2⟩
    unfold memNot at e ⊢
    by_cases e1 : b = B
    · rw [if_pos e1] at e; cases e
    · rw [if_neg e1] at e ⊢
      by_cases e2 : b < s
      · rw [if_pos e2] at e ⊢; exact e
      · rw [if_neg e2] at e ⊢; exact memOf_mono hb _ _ e⟩
theorem memNot_mono {M : Mem} {s B : Nat} {w w' : World} (hb : Below w.heap.size w w') : (memNot M s B w).le (memNot M s B w') := fun b c e => by
  unfold memNot at e ⊢
  by_cases e1 : b = B
  · rw [if_pos e1] at e; cases e
  · rw [if_neg e1] at e ⊢
    by_cases e2 : b < s
    · rw [if_pos e2] at e ⊢; exact e
    · rw [if_neg e2] at e ⊢; exact memOf_mono hb _ _ e
theorem set_same {row : List Dat} (h : row.length = 35) : row.set 5 (row[5]?.getD .o) = row := by
  refine List.ext_getElem? fun i => ?_
  by_cases e : i = 5
  · subst e
    rw [List.getElem?_set_self (by omega), List.getElem?_eq_getElem (by omega)]
    rfl
  · rw [List.getElem?_set_ne (Ne.symm e)]
theorem set_row {rows : List (List Dat)} {q : Nat} {row : List Dat} (h : rows[q]? = some row) : rows.set q row = rows := by
  refine List.ext_getElem? fun i => ?_
  by_cases e : i = q
  · subst e
    rw [List.getElem?_set_self (List.getElem?_eq_some_iff.1 h).1, h]
  · rw [List.getElem?_set_ne (Ne.symm e)]
/-- One frame in a block, as a stack. -/
theorem dr_one_frame {M : Mem} {b : Nat} {frow : List Dat} {cs : List Value} (hf : Dd.Good lay M (lay 43) frow cs) (hb : M b = some cs.toArray) : DR lay M (.sl 43) (.r [frow]) (.slice (some ⟨b, 0, none⟩) 1 1) := by
  have hcl : cs.length = 35 := hf.l2
  refine .sl _ (.r [frow]) b 0 1 (fun _ j => cs.getD j undef) (Nat.le_refl _) (fun i row hi => ?_) (fun i row hi j hj => ⟨cs.toArray, hb, ?_⟩) (fun i row hi j k u hk hu => ?_)
  · have hi : [frow][i]? = some row := hi
    have : row ∈ [frow] := List.mem_of_getElem? hi
    rw [List.mem_singleton.1 this]
    exact hf.l1
  · have hi0 : i = 0 := by
      have := (List.getElem?_eq_some_iff.1 (show [frow][i]? = some row from hi)).1
      simpa using this
    subst hi0
    have hj : j < 35 := hj
    simp [show j < cs.length by omega, List.getD_eq_getElem?_getD]
  · have hi0 : i = 0 := by
      have := (List.getElem?_eq_some_iff.1 (show [frow][i]? = some row from hi)).1
      simpa using this
    subst hi0
    cases hi
    have hj : j < 35 := (List.getElem?_eq_some_iff.1 hk).1
    refine hf.dr j k u _ hk hu ?_
    rw [List.getD_eq_getElem?_getD, List.getElem?_eq_getElem (by omega)]
    rfl
theorem fill_g {ie : TypeInfo} (hs : ie.size = 35) (z : Value) {cs : List Value} (h : cs.length = 35) : Instr.fill (fun i => some (i * ie.size, ie.size)) ((Array.range (1 * ie.size)).map (z.cells[· % z.cells.size]!)) [(0, .agg cs.toArray)] = some cs.toArray := fill_one hs z h
theorem frame_info : ∃ i0 z, Tryz.prog.info? 43 = some i0 ∧ i0.zero = some z ∧ i0.size = 35 ∧ i0.bytes ≤ 1000 := by
  obtain ⟨i0, e0⟩ : ∃ i0, Tryz.prog.info? 43 = some i0 := Option.isSome_iff_exists.1 (by kernel_rfl)
  have e1 : (Tryz.prog.info? 43).map (fun i => (i.zero.isSome, i.size, decide (i.bytes ≤ 1000))) = some (true, 35, true) := by kernel_rfl
  rw [e0] at e1
  simp only [Option.map_some, Option.some.injEq, Prod.mk.injEq, decide_eq_true_eq] at e1
  obtain ⟨e1, e2, e3⟩ := e1
  obtain ⟨z, e1⟩ := Option.isSome_iff_exists.1 e1
  exact ⟨i0, z, e0, e1, e2, e3⟩
theorem dr_data {M : Mem} {T : Nat} {d d' : Dat} {v : Value} (h : DR lay M (.sl T) d v) (e : d'.rows = d.rows) : DR lay M (.sl T) d' v := by
  cases h with
  | nil _ _ p c h0 => exact .nil T d' p c (e.trans h0)
  | sl _ _ b o c val h1 h2 h3 h4 =>
    have := DR.sl (lay := lay) (M := M) T d' b o c val (by rw [e]; exact h1) (fun i row hi => h2 i row (by rw [← e]; exact hi)) (fun i row hi => h3 i row (by rw [← e]; exact hi)) (fun i row hi => h4 i row (by rw [← e]; exact hi))
    rwa [e] at this
theorem dr_cap {M : Mem} {T : Nat} {d : Dat} {p : Option Addr} {n c : Nat} (h : DR lay M (.sl T) d (.slice p n c)) (hn : 0 < n) : n ≤ c := by
  cases h with
  | nil => omega
  | sl _ _ b o _ val h1 => exact h1
theorem getD_good {M : Mem} {row : List Dat} {ts : Array Value} (h : Dd.Good lay M (lay 26) row ts.toList) : VR rho (bare M) (tmV (row.getD 0 .o).int (row.getD 1 .o).int (row.getD 2 .o).str (row.getD 3 .o).str (row.getD 4 .o)) (.agg ts) := ⟨ts, rfl, Dd.good_vrs (ρ := rho) h⟩
theorem frame_vr {M : Mem} {row : List Dat} {cs : List Value} (h : Dd.Good lay M (lay 43) row cs) : VR rho (bare M) (agR 43 row) (.agg cs.toArray) := ⟨cs.toArray, rfl, Dd.good_vrs (ρ := rho) h⟩
set_option maxHeartbeats 8000000 in
theorem there_code {W : World} {d : Dat} {p : Option Addr} {q c : Nat} {frow : List Dat} {cs : List Value} {trow : List Dat} {ts : Array Value} (hT : ToldM rho.tl (memOf W)) (h : DR lay (memOf W) (.sl 43) d (.slice p (q + 1) c)) (hn : d.rows.length = q + 1) (hd : Dok d) (hn2 : q + 1 < 64)
    (hs : ∀ row, row ∈ d.rows → Short row) (hf : Dd.Good lay (memOf W) (lay 43) frow cs) (hfo : AllOk frow) (hsf : Short frow) (ht : Dd.Good lay (memOf W) (lay 26) trow ts.toList) (hto : AllOk trow)
    (g5 : Pu 5 [.es 43 d] (.b false)) (g5f : Pu 5 [.es 43 (.r [frow])] (.b false)) (g6 : Pu 6 [tmV (trow.getD 0 .o).int (trow.getD 1 .o).int (trow.getD 2 .o).str (trow.getD 3 .o).str (trow.getD 4 .o)] (.b false))
    {row : List Dat} (hrow : d.rows[q]? = some row) (hk : (row.getD 0 .o).int = 0) :
    Calls Tryz.prog 4 #[.slice p (q + 1) c, .agg cs.toArray, .agg ts] W fun e W' => e = .returned (.bool true) ∧ Below W.heap.size W W' := by
  have hcl : cs.length = 35 := hf.l2
  have htl : ts.toList.length = 5 := ht.l2
  have hcl' := Lib.hid hcl
  have htl' := Lib.hid htl
  have hn' := Lib.hid hn
  have hk' := Lib.hid hk
  have hh := Lib.hid h
  have hff := Lib.hid hf
  have htt := Lib.hid ht
  clear hcl htl hn hk h hf ht
  go_enter Tryz.func4, Tryz.ntmps4
  go_upto_region 1 with fail
  have hB0 : Below W.heap.size W ((W.alloc (.cells cs.toArray 43)).alloc (.cells ts 26)) := ((Below.refl _ W).alloc (Nat.le_refl _) _).alloc (by simp) _
  have hX0 : Box W.heap.size cs.toArray ((W.alloc (.cells cs.toArray 43)).alloc (.cells ts 26)) := by
    have h1 : Box W.heap.size cs.toArray (W.alloc (.cells cs.toArray 43)) := by
      show (W.heap.push _)[W.heap.size]? = _
      exact Array.getElem?_push_size
    exact h1.below ((Below.refl _ _).alloc (Nat.le_refl _) _)
  have hY0 : BoxT (W.heap.size + 1) ts ((W.alloc (.cells cs.toArray 43)).alloc (.cells ts 26)) := by
    show ((W.alloc (.cells cs.toArray 43)).heap.push _)[W.heap.size + 1]? = _
    have : (W.alloc (.cells cs.toArray 43)).heap.size = W.heap.size + 1 := by show (W.heap.push _).size = _; simp
    rw [← this]
    exact Array.getElem?_push_size
  have hW2 : W.heap.size + 1 < ((W.alloc (.cells cs.toArray 43)).alloc (.cells ts 26)).heap.size := hY0.lt
  generalize (W.alloc (.cells cs.toArray 43)).alloc (.cells ts 26) = W2 at hB0 hX0 hY0 hW2 ⊢
  have hdr2 : DR lay (memOf W2) (.sl 43) d (.slice p (q + 1) c) := hh.out.mono (memOf_mono hB0)
  have hT2 := told_mono hB0 hT
  obtain ⟨i0, z, z0, z1, z2, z3⟩ := frame_info
  go_upto_region 3 with (first
    | (go_at_call 6; refine (pu_b g6 hT4 ⟨_, _, rfl, hVt, rfl⟩).mono ?_; rintro e w5 ⟨rfl, hb5⟩; have hB5 := hB4.trans (hb5.mono hB4.size); have hY5 := hY4.below hb5; have hX5 := hX4.below hb5; have hT5 := told_mono hb5 hT4)
    | (refine wpList_load_g (by kernel_rfl) 26 _ rfl (W.heap.size + 1) 0 rfl ts.toList _ (boxT_range hY4) Tryz.underlying26 rfl (term_size htl'.out) ?_; have hVt := getD_good (good_mono (memOf_mono hB4) htt.out))
    | (go_at_call 5; refine (pu_b g5f hT3 ⟨_, _, rfl, hdrF, rfl⟩).mono ?_; rintro e w4 ⟨rfl, hb4⟩; have hB4 := hB3.trans (hb4.mono hB3.size); have hY4 := hY3.below hb4; have hX4 := hX3.below hb4; have hT4 := told_mono hb4 hT3)
    | (refine wpList_step (fun K hK => ?_); rw [if_pos (by kernel_rfl)]; refine wp_buildSlice 22 43 1 _ rfl cs.toArray i0 z (by kernel_rfl) z0 z1 (by rw [z2]; decide) (by rw [z2]; decide) (Eq.trans (congrArg (Instr.fill _ _) (show _ = [(0, Value.agg cs.toArray)] by kernel_rfl)) (fill_g z2 z hcl'.out)) ?_; refine hK _ _ ?_; have hA3 := (Below.refl w1.heap.size w1).alloc (Nat.le_refl _) (.cells cs.toArray 43); have hB3 := hB1.trans (hA3.mono hB1.size); have hY3 := hY1.below hA3; have hX3 := hX1.below hA3; have hT3 := told_mono hA3 hT1; have hdrF := dr_one_frame (b := w1.heap.size) (good_mono (memOf_mono hB3) hff.out) (memOf_at (show (w1.heap.push (Obj.cells cs.toArray 43))[w1.heap.size]? = some (.cells cs.toArray 43 (0, 0)) from Array.getElem?_push_size)); clear hK K)
    | (refine wpList_load_g (by kernel_rfl) 43 _ rfl W.heap.size 0 rfl cs _ (box_range hX1) Tryz.underlying43 rfl (frame_size hcl'.out) ?_)
    | (go_at_call 5; refine (pu_b g5 hT2 ⟨_, _, rfl, hdr2, rfl⟩).mono ?_; rintro e w1 ⟨rfl, hb1⟩; have hX1 := hX0.below hb1; have hY1 := hY0.below hb1; have hB1 := hB0.trans (hb1.mono hB0.size); have hT1 := told_mono hb1 hT2))
  clear hb5 hB4 hY4 hX4 hT4 hb4 hB3 hY3 hX3 hT3 hA3 hdrF hB1 hb1 hX1 hY1 hT1 hdr2 hT2 hVt hX0 hY0 hB0 hW2 z0 z1 z2 z3
  have hp := push_in (memOf_ok w5) (d := d) (p := p) (c := c) (by rw [hn'.out]; exact hh.out.mono (memOf_mono hB5)) (by rw [hn'.out]; exact hn2) hs (good_mono (memOf_mono hB5) hff.out) hsf
  rw [hn'.out] at hp
  go_wp2_with (first
    | (go_at_call 11; refine hp.mono ?_; rintro e w6 ⟨v1, d1, rfl, hd1, hD1, hb6⟩; have hD1 := hD1.mono (fun b c e => le_mem (memAll_ok (memOf_ok w5) hb6).2.2 b c e); obtain ⟨p1, c1, e1⟩ := dr_sl hD1; rw [hd1, List.length_append, hn'.out, List.length_singleton] at e1; subst e1)
    | (refine wpList_load_g (by kernel_rfl) 43 _ rfl W.heap.size 0 rfl cs _ (box_range hX5) Tryz.underlying43 rfl (frame_size hcl'.out) ?_))
  have hB6 := hB5.trans (hb6.mono hB5.size)
  have hX6 := hX5.below hb6
  have hY6 := hY5.below hb6
  have hT6 := told_mono hb6 hT5
  clear hp hb6 hB5 hX5 hY5 hT5
  have hd1l : d1.rows.length = q + 2 := by rw [hd1, List.length_append, hn'.out]; rfl
  have hr1 : d1.rows[q + 1]? = some frow := by rw [hd1, List.getElem?_append_right (by rw [hn'.out]; exact Nat.le_refl _), hn'.out, Nat.sub_self]; rfl
  obtain ⟨b1, o1, cs1, rfl, hR1, hG1⟩ := row_range (memOf_ok w6) hD1 hr1
  have hR1 : w6.rangeAt b1 (o1 + (q + 1) * 35) cs1 := hR1
  have hc1l : cs1.length = 35 := hG1.l2
  have hc1l' := Lib.hid hc1l
  have hd1' := Lib.hid hd1
  have hd1l' := Lib.hid hd1l
  clear hc1l hd1 hd1l
  refine region_late [] (fun V => Below w6.heap.size w6 V) (by kernel_rfl) ((Below.refl _ w6).drew) (fun hHeld => ?_)
  generalize w6.drew = w7 at hHeld ⊢
  have hwr : IntKind.i64.wrap ((q : Int) + 1 + 1) = (q : Int) + 1 + 1 := by rw [IntKind.wrap_i64]; omega
  refine anyL_addr (i := 0) (v := ?_) rfl (by kernel_rfl) (by kernel_rfl) (by kernel_rfl) (fun _ _ _ h => h) (by kernel_rfl) (Or.inl ⟨by rfl, ?_⟩) (by assumption) ?_
  rotate_left 1
  (intro W hSw; go_simp; try with_reducible rfl)
  (try simp only [List.getElem_toArray, List.getElem_cons_zero, Act.put, List.setIfInBounds_toArray, List.set_cons_zero, List.set_cons_succ])
  refine anyL_addr (i := 1) (v := ?_) rfl (by kernel_rfl) (by kernel_rfl) (by kernel_rfl) (fun _ _ _ h => h) (by kernel_rfl) (Or.inl ⟨by rfl, ?_⟩) (by assumption) ?_
  rotate_left 1
  (intro W hSw; go_simp; try with_reducible rfl)
  (try simp only [List.getElem_toArray, List.getElem_cons_succ, List.getElem_cons_zero, Act.put, List.setIfInBounds_toArray, List.set_cons_zero, List.set_cons_succ])
  refine anyL_addr (i := 2) (v := ?_) rfl (by kernel_rfl) (by kernel_rfl) (by kernel_rfl) (fun _ _ _ h => h) (by kernel_rfl) (Or.inl ⟨by rfl, ?_⟩) (by assumption) ?_
  rotate_left 1
  (intro W hSw; go_simp; try with_reducible rfl)
  (try simp only [List.getElem_toArray, List.getElem_cons_succ, List.getElem_cons_zero, Act.put, List.setIfInBounds_toArray, List.set_cons_zero, List.set_cons_succ])
  refine anyL_addr (i := 3) (v := ?_) rfl (by kernel_rfl) (by kernel_rfl) (by kernel_rfl) (fun _ _ _ h => h) (by kernel_rfl) (Or.inl ⟨by rfl, ?_⟩) (by assumption) ?_
  rotate_left 1
  (intro W hSw; go_simp; try with_reducible rfl)
  (try simp only [List.getElem_toArray, List.getElem_cons_succ, List.getElem_cons_zero, Act.put, List.setIfInBounds_toArray, List.set_cons_zero, List.set_cons_succ])
  refine anyL_addr (i := 4) (v := ?_) rfl (by kernel_rfl) (by kernel_rfl) (by kernel_rfl) (fun _ _ _ h => h) (by kernel_rfl) (Or.inl ⟨by rfl, ?_⟩) (by assumption) ?_
  rotate_left 1
  (intro W hSw; go_simp; try with_reducible rfl)
  (try simp only [List.getElem_toArray, List.getElem_cons_succ, List.getElem_cons_zero, Act.put, List.setIfInBounds_toArray, List.set_cons_zero, List.set_cons_succ])
  refine anyL_addr (i := 5) (v := .bool false) rfl (by kernel_rfl) (by kernel_rfl) (by kernel_rfl) (fun _ _ _ h => h) (by kernel_rfl) (Or.inl ⟨by rfl, ?_⟩) (by assumption) ?_
  · intro W hSw; go_simp
  (try simp only [List.getElem_toArray, List.getElem_cons_succ, List.getElem_cons_zero, Act.put, List.setIfInBounds_toArray, List.set_cons_zero, List.set_cons_succ])
  refine anyL_addr (i := 6) (v := ?_) rfl (by kernel_rfl) (by kernel_rfl) (by kernel_rfl) (fun _ _ _ h => h) (by kernel_rfl) (Or.inl ⟨by rfl, ?_⟩) (by assumption) ?_
  rotate_left 1
  (intro W hSw; go_simp; try with_reducible rfl)
  (try simp only [List.getElem_toArray, List.getElem_cons_succ, List.getElem_cons_zero, Act.put, List.setIfInBounds_toArray, List.set_cons_zero, List.set_cons_succ])
  refine anyL_addr (i := 7) (v := ?_) rfl (by kernel_rfl) (by kernel_rfl) (by kernel_rfl) (fun _ _ _ h => h) (by kernel_rfl) (Or.inl ⟨by rfl, ?_⟩) (by assumption) ?_
  rotate_left 1
  (intro W hSw; go_simp; try with_reducible rfl)
  (try simp only [List.getElem_toArray, List.getElem_cons_succ, List.getElem_cons_zero, Act.put, List.setIfInBounds_toArray, List.set_cons_zero, List.set_cons_succ])
  refine anyL_addr (i := 8) (v := ?_) rfl (by kernel_rfl) (by kernel_rfl) (by kernel_rfl) (fun _ _ _ h => h) (by kernel_rfl) (Or.inl ⟨by rfl, ?_⟩) (by assumption) ?_
  rotate_left 1
  (intro W hSw; go_simp; try with_reducible rfl)
  (try simp only [List.getElem_toArray, List.getElem_cons_succ, List.getElem_cons_zero, Act.put, List.setIfInBounds_toArray, List.set_cons_zero, List.set_cons_succ])
  refine anyL_addr (i := 9) (v := ?_) rfl (by kernel_rfl) (by kernel_rfl) (by kernel_rfl) (fun _ _ _ h => h) (by kernel_rfl) (Or.inl ⟨by rfl, ?_⟩) (by assumption) ?_
  rotate_left 1
  (intro W hSw; go_simp; try with_reducible rfl)
  (try simp only [List.getElem_toArray, List.getElem_cons_succ, List.getElem_cons_zero, Act.put, List.setIfInBounds_toArray, List.set_cons_zero, List.set_cons_succ])
  refine anyL_addr (i := 10) (v := .pointer (some ⟨b1, o1 + (q + 1) * 35, none⟩)) rfl (by kernel_rfl) (by kernel_rfl) (by kernel_rfl) (fun _ _ _ h => h) (by kernel_rfl) (Or.inl ⟨by rfl, ?_⟩) (by assumption) ?_
  · intro W hSw; go_simp; intro h1; exact absurd (h1 (by omega)) (by omega)
  (try simp only [List.getElem_toArray, List.getElem_cons_succ, List.getElem_cons_zero, Act.put, List.setIfInBounds_toArray, List.set_cons_zero, List.set_cons_succ])
  refine anyL_take (i := 11) (v := .agg cs1.toArray) rfl (by kernel_rfl) (by kernel_rfl) (by kernel_rfl) (fun _ _ _ h => h) (by kernel_rfl) (by kernel_rfl) (by kernel_rfl) (yieldsIf_load_mid rfl 43 _ rfl b1 (o1 + (q + 1) * 35) rfl cs1 _ (fun V hSw => range_below hR1 hSw) Tryz.underlying43 rfl (frame_size hc1l'.out)) hHeld ?_
  (try simp only [List.getElem_toArray, List.getElem_cons_succ, List.getElem_cons_zero, Act.put, List.setIfInBounds_toArray, List.set_cons_zero, List.set_cons_succ])
  refine anyL_take (i := 12) (v := .agg cs.toArray) rfl (by kernel_rfl) (by kernel_rfl) (by kernel_rfl) (fun _ _ _ h => h) (by kernel_rfl) (by kernel_rfl) (by kernel_rfl) (yieldsIf_load_mid rfl 43 _ rfl W.heap.size 0 rfl cs _ (fun V hSw => box_range (hX6.below hSw)) Tryz.underlying43 rfl (frame_size hcl'.out)) hHeld ?_
  (try simp only [List.getElem_toArray, List.getElem_cons_succ, List.getElem_cons_zero, Act.put, List.setIfInBounds_toArray, List.set_cons_zero, List.set_cons_succ])
  refine anyL_one (i := 13) (by kernel_rfl) rfl (fun K hK => ?_)
  go_simp
  have hT7 := told_mono hHeld hT6
  have hB7 := hB6.trans (hHeld.mono hB6.size)
  refine (pu_b (sameFrame_in hfo) hT7 ⟨_, _, rfl, frame_vr (good_mono (memOf_mono hHeld) hG1), _, _, rfl, frame_vr (good_mono (memOf_mono hB7) hff.out), rfl⟩).mono ?_
  rintro e w8 ⟨rfl, hb8⟩
  dsimp only
  have hH8 := hHeld.trans (hb8.mono hHeld.size)
  refine hK.out _ _ (fun _ => hH8) (fun hHeld2 => ?_)
  replace hHeld2 := hHeld2 (noB_spec (by kernel_rfl))
  clear hK K hHeld hT7 hB7 hb8
  (try simp only [List.getElem_toArray, List.getElem_cons_succ, List.getElem_cons_zero, Act.put, List.setIfInBounds_toArray, List.set_cons_zero, List.set_cons_succ])
  refine anyL_addr (i := 14) (v := ?_) rfl (by kernel_rfl) (by kernel_rfl) (by kernel_rfl) (fun _ _ _ h => h) (by kernel_rfl) (Or.inl ⟨by rfl, ?_⟩) (by assumption) ?_
  rotate_left 1
  (intro W hSw; go_simp; try with_reducible rfl)
  (try simp only [List.getElem_toArray, List.getElem_cons_succ, List.getElem_cons_zero, Act.put, List.setIfInBounds_toArray, List.set_cons_zero, List.set_cons_succ])
  refine anyL_addr (i := 15) (v := ?_) rfl (by kernel_rfl) (by kernel_rfl) (by kernel_rfl) (fun _ _ _ h => h) (by kernel_rfl) (Or.inl ⟨by rfl, ?_⟩) (by assumption) ?_
  rotate_left 1
  (intro W hSw; go_simp; try with_reducible rfl)
  (try simp only [List.getElem_toArray, List.getElem_cons_succ, List.getElem_cons_zero, Act.put, List.setIfInBounds_toArray, List.set_cons_zero, List.set_cons_succ])
  refine anyL_done (by kernel_rfl) ?_ _
  have hB8 := hB6.trans (hH8.mono hB6.size)
  have hX8 := hX6.below hH8
  have hY8 := hY6.below hH8
  have hT8 := told_mono hH8 hT6
  have hD8 := hD1.mono (memOf_mono hH8)
  clear hHeld2 hH8 hB6 hX6 hY6 hT6 hD1 hG1 hR1 hr1 hc1l' hwr
  have hbk := back_code (memOf_ok w8) hD8 (by rw [hd1l'.out]) (show 2 ≤ q + 1 + 1 by omega) (by omega) (fun r hr => (by
    rw [hd1'.out] at hr
    rcases List.mem_append.1 hr with hr | hr
    · exact hs r hr
    · rw [List.mem_singleton.1 hr]; exact hsf)) (row := row) (by
      rw [show q + 1 + 1 - 2 = q by omega, hd1'.out, List.getElem?_append_left (by rw [hn'.out]; omega)]
      exact hrow) hk'.out (good_mono (memOf_mono hB8) htt.out)
  rw [show q + 1 + 1 - 1 = q + 1 by omega, show q + 1 + 1 - 2 = q by omega, show d1.rows.take (q + 1) = d.rows by rw [hd1'.out, List.take_append_of_le_length (by rw [hn'.out]; exact Nat.le_refl _), List.take_of_length_le (by rw [hn'.out]; exact Nat.le_refl _)]] at hbk
  go_upto_region 9 with (first
    | (go_at_call 10; refine hbk.mono ?_; rintro e w9 ⟨B, f, rfl, hB9, hSt, hb9⟩)
    | (refine wpList_load_g (by kernel_rfl) 26 _ rfl (W.heap.size + 1) 0 rfl ts.toList _ (boxT_range hY8) Tryz.underlying26 rfl (term_size htl'.out) ?_))
  have hB10 := hB8.trans (hb9.mono hB8.size)
  have hY10 := hY8.below hb9
  have hT10 := told_mono hb9 hT8
  obtain ⟨b0, o0, cs0, rfl, hR0, hG0⟩ := row_range (memOf_ok w9) (hh.out.mono (memOf_mono hB10)) hrow
  have hR0 : w9.rangeAt b0 (o0 + q * 35) cs0 := hR0
  have hc0l : cs0.length = 35 := hG0.l2
  have hcell0 : ∀ j, j < 35 → w9.cell? ⟨b0, o0 + q * 35 + j, none⟩ = some (cs0.getD j undef) := fun j hj => hR0 j _ (by rw [List.getD_eq_getElem?_getD, List.getElem?_eq_getElem (by omega)]; rfl)
  have hkc : w9.cell? ⟨b0, o0 + q * 35, none⟩ = some (.int .i8 0) := by
    have h1 := hcell0 0 (by omega)
    rw [dr_i (dr_at hG0 0 (k := .i .i8) rfl), hk'.out] at h1
    exact h1
  obtain ⟨p50, c50, e50⟩ := dr_sl (dr_at hG0 5 (k := .sl 26) rfl)
  have hsc := hcell0 5 (by omega)
  rw [e50] at hsc
  obtain ⟨r', hr', hG'⟩ := hSt.good q (by omega)
  rw [List.getElem?_set_self (by rw [hn'.out]; omega)] at hr'
  cases hr'
  have hrl : row.length = 35 := by
    have := hG0.l1
    exact this
  have h5' := dr_at hG' 5 (k := .sl 26) rfl
  rw [cut_at f q (by omega), List.getD_eq_getElem?_getD, List.getElem?_set_self (by omega)] at h5'
  have h5' : DR lay (memNot (memOf w8) w8.heap.size B w9) (.sl 26) (.r ((row.getD 5 .o).rows ++ [trow])) (f (q * 35 + 5)) := h5'
  obtain ⟨p5, c5, e5⟩ := dr_sl h5'
  rw [show (Dat.r ((row.getD 5 .o).rows ++ [trow])).rows.length = (row.getD 5 .o).rows.length + 1 by show ((row.getD 5 .o).rows ++ [trow]).length = _; rw [List.length_append]; rfl] at e5
  have hyc := hSt.row.cell (i := q * 35 + 5) (by omega)
  have hyf := hSt.row.frozen (q * 35 + 5)
  rw [e5] at hyc h5'
  have hlen5 : (row.getD 5 .o).rows.length ≤ 1200 := (hs row (List.mem_of_getElem? hrow)).2.2.1
  generalize hn5 : (row.getD 5 .o).rows.length = n5 at hsc hyc h5' hlen5 e5
  have hn5' := Lib.hid hn5
  have e5' := Lib.hid e5
  have hrl' := Lib.hid hrl
  clear hn5 e5 e50 hc0l hcell0 hbk hR0 hrl
  have hle9 : (memNot (memOf w8) w8.heap.size B w9).le (memOf w9) := fun b c e => le_mem (memAll_ok (memOf_ok w8) hb9).2.2 b c (memNot_le _ _ _ _ b c e)
  obtain ⟨b5, o5, cs5, rfl, hR5, hG5⟩ := row_range (memOf_ok w9) (d := .r ((row.getD 5 .o).rows ++ [trow])) (h5'.mono hle9) (i := n5) (row := trow) (by
    show ((row.getD 5 .o).rows ++ [trow])[n5]? = some trow
    rw [List.getElem?_append_right (by rw [hn5'.out]; exact Nat.le_refl _), hn5'.out, Nat.sub_self]
    rfl)
  have hR5 : w9.rangeAt b5 (o5 + n5 * 5) cs5 := hR5
  have h5l : cs5.length = 5 := hG5.l2
  have h5l' := Lib.hid h5l
  have hc5 : n5 + 1 ≤ c5 := by
    exact dr_cap h5' (by omega)
  clear h5l
  have h5'' := Lib.hid (h5'.mono (memNot_mono (M := memOf w8) (s := w8.heap.size) (B := B) (Below.refl w9.heap.size w9)))
  go_wp2
  refine region_late [] (fun V => Below w9.heap.size w9 V) (by kernel_rfl) ((Below.refl _ w9).drew) (fun hHeld => ?_)
  generalize w9.drew = w10 at hHeld ⊢
  have hwr : IntKind.i64.wrap ((n5 : Int) + 1) = (n5 : Int) + 1 := by rw [IntKind.wrap_i64]; omega
  have hwr2 : IntKind.i64.wrap (n5 : Int) = (n5 : Int) := by rw [IntKind.wrap_i64]; omega
  have hBl9 : B < w9.heap.size := hSt.row.lt
  have hb0l : b0 < w9.heap.size := cell_block hsc
  refine anyL_addr (i := 0) (v := ?_) rfl (by kernel_rfl) (by kernel_rfl) (by kernel_rfl) (fun _ _ _ h => h) (by kernel_rfl) (Or.inl ⟨by rfl, ?_⟩) (by assumption) ?_
  rotate_left 1
  (intro W hSw; go_simp; try with_reducible rfl)
  (try simp only [List.getElem_toArray, List.getElem_cons_zero, Act.put, List.setIfInBounds_toArray, List.set_cons_zero, List.set_cons_succ])
  refine anyL_addr (i := 1) (v := ?_) rfl (by kernel_rfl) (by kernel_rfl) (by kernel_rfl) (fun _ _ _ h => h) (by kernel_rfl) (Or.inl ⟨by rfl, ?_⟩) (by assumption) ?_
  rotate_left 1
  (intro W hSw; go_simp; try with_reducible rfl)
  (try simp only [List.getElem_toArray, List.getElem_cons_succ, List.getElem_cons_zero, Act.put, List.setIfInBounds_toArray, List.set_cons_zero, List.set_cons_succ])
  refine anyL_addr (i := 2) (v := ?_) rfl (by kernel_rfl) (by kernel_rfl) (by kernel_rfl) (fun _ _ _ h => h) (by kernel_rfl) (Or.inl ⟨by rfl, ?_⟩) (by assumption) ?_
  rotate_left 1
  (intro W hSw; go_simp; try with_reducible rfl)
  (try simp only [List.getElem_toArray, List.getElem_cons_succ, List.getElem_cons_zero, Act.put, List.setIfInBounds_toArray, List.set_cons_zero, List.set_cons_succ])
  refine anyL_addr (i := 3) (v := .pointer (some ⟨b0, o0 + q * 35, none⟩)) rfl (by kernel_rfl) (by kernel_rfl) (by kernel_rfl) (fun _ _ _ h => h) (by kernel_rfl) (Or.inl ⟨by rfl, ?_⟩) (by assumption) ?_
  · intro W hSw; go_simp; first | (intro h1; exact absurd h1 (by omega)) | (intro h1; exact absurd (h1 (by omega)) (by omega))
  (try simp only [List.getElem_toArray, List.getElem_cons_succ, List.getElem_cons_zero, Act.put, List.setIfInBounds_toArray, List.set_cons_zero, List.set_cons_succ])
  refine anyL_addr (i := 4) (v := .pointer (some ⟨b0, o0 + q * 35 + 5, none⟩)) rfl (by kernel_rfl) (by kernel_rfl) (by kernel_rfl) (fun _ _ _ h => h) (by kernel_rfl) (Or.inl ⟨by rfl, ?_⟩) (by assumption) ?_
  · intro W hSw; go_simp
  (try simp only [List.getElem_toArray, List.getElem_cons_succ, List.getElem_cons_zero, Act.put, List.setIfInBounds_toArray, List.set_cons_zero, List.set_cons_succ])
  refine anyL_take (i := 5) (v := .slice p50 n5 c50) rfl (by kernel_rfl) (by kernel_rfl) (by kernel_rfl) (fun _ _ _ h => h) (by kernel_rfl) (by kernel_rfl) (by kernel_rfl) (Or.inl ⟨by rfl, ?_⟩) (by assumption) ?_
  · intro V hSw; have c := (Below.cell hSw (p := ⟨b0, o0 + q * 35 + 5, none⟩) hb0l).trans hsc; go_simp
  (try simp only [List.getElem_toArray, List.getElem_cons_succ, List.getElem_cons_zero, Act.put, List.setIfInBounds_toArray, List.set_cons_zero, List.set_cons_succ])
  refine anyL_addr (i := 6) (v := ?_) rfl (by kernel_rfl) (by kernel_rfl) (by kernel_rfl) (fun _ _ _ h => h) (by kernel_rfl) (Or.inl ⟨by rfl, ?_⟩) (by assumption) ?_
  rotate_left 1
  (intro W hSw; go_simp; try with_reducible rfl)
  (try simp only [List.getElem_toArray, List.getElem_cons_succ, List.getElem_cons_zero, Act.put, List.setIfInBounds_toArray, List.set_cons_zero, List.set_cons_succ])
  refine anyL_addr (i := 7) (v := .int .i64 ((n5 : Int) + 1)) rfl (by kernel_rfl) (by kernel_rfl) (by kernel_rfl) (fun _ _ _ h => h) (by kernel_rfl) (Or.inl ⟨by rfl, ?_⟩) (by assumption) ?_
  · intro W hSw; go_simp
  (try simp only [List.getElem_toArray, List.getElem_cons_succ, List.getElem_cons_zero, Act.put, List.setIfInBounds_toArray, List.set_cons_zero, List.set_cons_succ])
  refine anyL_addr (i := 8) (v := .bool false) rfl (by kernel_rfl) (by kernel_rfl) (by kernel_rfl) (fun _ _ _ h => h) (by kernel_rfl) (Or.inl ⟨by rfl, ?_⟩) (by assumption) ?_
  · intro W hSw; go_simp
  (try simp only [List.getElem_toArray, List.getElem_cons_succ, List.getElem_cons_zero, Act.put, List.setIfInBounds_toArray, List.set_cons_zero, List.set_cons_succ])
  refine anyL_addr (i := 9) (v := ?_) rfl (by kernel_rfl) (by kernel_rfl) (by kernel_rfl) (fun _ _ _ h => h) (by kernel_rfl) (Or.inl ⟨by rfl, ?_⟩) (by assumption) ?_
  rotate_left 1
  (intro W hSw; go_simp; try with_reducible rfl)
  (try simp only [List.getElem_toArray, List.getElem_cons_succ, List.getElem_cons_zero, Act.put, List.setIfInBounds_toArray, List.set_cons_zero, List.set_cons_succ])
  refine anyL_addr (i := 10) (v := ?_) rfl (by kernel_rfl) (by kernel_rfl) (by kernel_rfl) (fun _ _ _ h => h) (by kernel_rfl) (Or.inl ⟨by rfl, ?_⟩) (by assumption) ?_
  rotate_left 1
  (intro W hSw; go_simp; try with_reducible rfl)
  (try simp only [List.getElem_toArray, List.getElem_cons_succ, List.getElem_cons_zero, Act.put, List.setIfInBounds_toArray, List.set_cons_zero, List.set_cons_succ])
  refine anyL_addr (i := 11) (v := ?_) rfl (by kernel_rfl) (by kernel_rfl) (by kernel_rfl) (fun _ _ _ h => h) (by kernel_rfl) (Or.inl ⟨by rfl, ?_⟩) (by assumption) ?_
  rotate_left 1
  (intro W hSw; go_simp; try with_reducible rfl)
  (try simp only [List.getElem_toArray, List.getElem_cons_succ, List.getElem_cons_zero, Act.put, List.setIfInBounds_toArray, List.set_cons_zero, List.set_cons_succ])
  refine anyL_addr (i := 12) (v := .pointer (some ⟨B, q * 35, none⟩)) rfl (by kernel_rfl) (by kernel_rfl) (by kernel_rfl) (fun _ _ _ h => h) (by kernel_rfl) (Or.inl ⟨by rfl, ?_⟩) (by assumption) ?_
  · intro W hSw; go_simp; first | (intro h1; exact absurd h1 (by omega)) | (intro h1; exact absurd (h1 (by omega)) (by omega))
  (try simp only [List.getElem_toArray, List.getElem_cons_succ, List.getElem_cons_zero, Act.put, List.setIfInBounds_toArray, List.set_cons_zero, List.set_cons_succ])
  refine anyL_addr (i := 13) (v := .pointer (some ⟨B, q * 35 + 5, none⟩)) rfl (by kernel_rfl) (by kernel_rfl) (by kernel_rfl) (fun _ _ _ h => h) (by kernel_rfl) (Or.inl ⟨by rfl, ?_⟩) (by assumption) ?_
  · intro W hSw; go_simp
  (try simp only [List.getElem_toArray, List.getElem_cons_succ, List.getElem_cons_zero, Act.put, List.setIfInBounds_toArray, List.set_cons_zero, List.set_cons_succ])
  refine anyL_take (i := 14) (v := .slice (some ⟨b5, o5, none⟩) (n5 + 1) c5) rfl (by kernel_rfl) (by kernel_rfl) (by kernel_rfl) (fun _ _ _ h => h) (by kernel_rfl) (by kernel_rfl) (by kernel_rfl) (Or.inl ⟨by rfl, ?_⟩) (by assumption) ?_
  · intro V hSw; have c := (Below.cell hSw (p := ⟨B, q * 35 + 5, none⟩) hBl9).trans hyc; go_simp
  (try simp only [List.getElem_toArray, List.getElem_cons_succ, List.getElem_cons_zero, Act.put, List.setIfInBounds_toArray, List.set_cons_zero, List.set_cons_succ])
  refine anyL_addr (i := 15) (v := ?_) rfl (by kernel_rfl) (by kernel_rfl) (by kernel_rfl) (fun _ _ _ h => h) (by kernel_rfl) (Or.inl ⟨by rfl, ?_⟩) (by assumption) ?_
  rotate_left 1
  (intro W hSw; go_simp; try with_reducible rfl)
  (try simp only [List.getElem_toArray, List.getElem_cons_succ, List.getElem_cons_zero, Act.put, List.setIfInBounds_toArray, List.set_cons_zero, List.set_cons_succ])
  refine anyL_addr (i := 16) (v := .int .i64 (n5 : Int)) rfl (by kernel_rfl) (by kernel_rfl) (by kernel_rfl) (fun _ _ _ h => h) (by kernel_rfl) (Or.inl ⟨by rfl, ?_⟩) (by assumption) ?_
  · intro W hSw; go_simp
  (try simp only [List.getElem_toArray, List.getElem_cons_succ, List.getElem_cons_zero, Act.put, List.setIfInBounds_toArray, List.set_cons_zero, List.set_cons_succ])
  refine anyL_addr (i := 17) (v := .pointer (some ⟨b5, o5 + n5 * 5, none⟩)) rfl (by kernel_rfl) (by kernel_rfl) (by kernel_rfl) (fun _ _ _ h => h) (by kernel_rfl) (Or.inl ⟨by rfl, ?_⟩) (by assumption) ?_
  · intro W hSw; go_simp; first | (intro h1; exact absurd h1 (by omega)) | (intro h1; exact absurd (h1 (by omega)) (by omega))
  (try simp only [List.getElem_toArray, List.getElem_cons_succ, List.getElem_cons_zero, Act.put, List.setIfInBounds_toArray, List.set_cons_zero, List.set_cons_succ])
  refine anyL_take (i := 18) (v := .agg cs5.toArray) rfl (by kernel_rfl) (by kernel_rfl) (by kernel_rfl) (fun _ _ _ h => h) (by kernel_rfl) (by kernel_rfl) (by kernel_rfl) (yieldsIf_load_mid rfl 26 _ rfl b5 (o5 + n5 * 5) rfl cs5 _ (fun V hSw => range_below hR5 hSw) Tryz.underlying26 rfl (term_size h5l'.out)) hHeld ?_
  (try simp only [List.getElem_toArray, List.getElem_cons_succ, List.getElem_cons_zero, Act.put, List.setIfInBounds_toArray, List.set_cons_zero, List.set_cons_succ])
  refine anyL_take (i := 19) (v := .agg ts) rfl (by kernel_rfl) (by kernel_rfl) (by kernel_rfl) (fun _ _ _ h => h) (by kernel_rfl) (by kernel_rfl) (by kernel_rfl) (yieldsIf_load_mid rfl 26 _ rfl (W.heap.size + 1) 0 rfl ts.toList _ (fun V hSw => boxT_range (hY10.below hSw)) Tryz.underlying26 rfl (term_size htl'.out)) hHeld ?_
  (try simp only [List.getElem_toArray, List.getElem_cons_succ, List.getElem_cons_zero, Act.put, List.setIfInBounds_toArray, List.set_cons_zero, List.set_cons_succ])
  refine anyL_one (i := 20) (by kernel_rfl) rfl (fun K hK => ?_)
  go_simp
  have hT11 := told_mono hHeld hT10
  have hB11 := hB10.trans (hHeld.mono hB10.size)
  refine (pu_b (same_in (hto.at 4) (trow.getD 0 .o).int (trow.getD 1 .o).int (trow.getD 2 .o).str (trow.getD 3 .o).str) hT11 ⟨_, _, rfl, getD_good (ts := cs5.toArray) (good_mono (memOf_mono hHeld) hG5), _, _, rfl, getD_good (good_mono (memOf_mono hB11) htt.out), rfl⟩).mono ?_
  rintro e w11 ⟨rfl, hb11⟩
  dsimp only
  have hH11 := hHeld.trans (hb11.mono hHeld.size)
  refine hK.out _ _ (fun _ => hH11) (fun hHeld2 => ?_)
  replace hHeld2 := hHeld2 (noB_spec (by kernel_rfl))
  clear hK K hHeld hT11 hB11 hb11
  (try simp only [List.getElem_toArray, List.getElem_cons_succ, List.getElem_cons_zero, Act.put, List.setIfInBounds_toArray, List.set_cons_zero, List.set_cons_succ])
  refine anyL_addr (i := 21) (v := ?_) rfl (by kernel_rfl) (by kernel_rfl) (by kernel_rfl) (fun _ _ _ h => h) (by kernel_rfl) (Or.inl ⟨by rfl, ?_⟩) (by assumption) ?_
  rotate_left 1
  (intro W hSw; go_simp; try with_reducible rfl)
  (try simp only [List.getElem_toArray, List.getElem_cons_succ, List.getElem_cons_zero, Act.put, List.setIfInBounds_toArray, List.set_cons_zero, List.set_cons_succ])
  refine anyL_addr (i := 22) (v := ?_) rfl (by kernel_rfl) (by kernel_rfl) (by kernel_rfl) (fun _ _ _ h => h) (by kernel_rfl) (Or.inl ⟨by rfl, ?_⟩) (by assumption) ?_
  rotate_left 1
  (intro W hSw; go_simp; try with_reducible rfl)
  (try simp only [List.getElem_toArray, List.getElem_cons_succ, List.getElem_cons_zero, Act.put, List.setIfInBounds_toArray, List.set_cons_zero, List.set_cons_succ])
  refine anyL_done (by kernel_rfl) ?_ _
  have hB12 := hB10.trans (hH11.mono hB10.size)
  have hT12 := told_mono hH11 hT10
  have hSt12 := hSt.below hH11
  have hbel12 := hb9.trans (hH11.mono hb9.size)
  have h5'' := Lib.hid (h5''.out.mono (memNot_mono (M := memOf w8) (s := w8.heap.size) (B := B) hH11))
  have hyc12 := hSt12.row.cell (i := q * 35 + 5) (by omega)
  have hyf12 := hSt12.row.frozen (q * 35 + 5)
  rw [e5'.out] at hyc12
  clear hHeld2 hyc hyf hsc hkc hR5 hG5 hG0 hG' hwr hH11 hT10 hB10 hY10
  go_upto_region 19 with fail
  have hBB : W.heap.size ≤ (⟨B, q * 35 + 5, none⟩ : Addr).block := by
    show W.heap.size ≤ B
    have := hB8.size
    omega
  have hb8B : w8.heap.size ≤ (⟨B, q * 35 + 5, none⟩ : Addr).block := hB9
  have hB13 := hB12.setCell hBB (.slice (some ⟨b5, o5, none⟩) n5 c5)
  have hbel13 := hbel12.setCell hb8B (.slice (some ⟨b5, o5, none⟩) n5 c5)
  have hv5 : DR lay (memNot (memOf w8) w8.heap.size B w11) (.sl 26) (row.getD 5 .o) (.slice (some ⟨b5, o5, none⟩) n5 c5) := by
    have h1 := dr_take (h5''.out) (show n5 ≤ n5 + 1 by omega)
    refine dr_data h1 ?_
    show (row.getD 5 .o).rows = (((row.getD 5 .o).rows ++ [trow]).take n5)
    rw [List.take_append_of_le_length (by rw [hn5'.out]; exact Nat.le_refl _), List.take_of_length_le (by rw [hn5'.out]; exact Nat.le_refl _)]
  have hSt13 := hSt12.set (i := q) (j := 5) (by omega) (row := row.set 5 (.r ((row.getD 5 .o).rows ++ [trow]))) (List.getElem?_set_self (by rw [hn'.out]; omega)) (kd := .sl 26) rfl hv5
  rw [List.set_set, List.set_set, show row.set 5 (row.getD 5 .o) = row by rw [List.getD_eq_getElem?_getD]; exact set_same hrl'.out, set_row hrow] at hSt13
  have hDy := StIn.dr (d := d) (c := q + 1) hB9 hSt13 (by rw [hn'.out]; exact Nat.le_refl _) (by rw [hn'.out]; exact Nat.le_refl _)
  rw [hn'.out] at hDy
  have hDy := hDy.mono (fun b c e => le_mem (memAll_ok (memOf_ok w8) hbel13).2.2 b c e)
  have hDl := hh.out.mono (memOf_mono hB13)
  have hT13 := told_mono hB13 hT
  clear hyc12 hyf12 hSt12 hSt13 hv5 hT12 hbel12 hB12
  generalize w11.setCell ⟨B, q * 35 + 5, none⟩ (.slice (some ⟨b5, o5, none⟩) n5 c5) = w13 at hB13 hbel13 hDy hDl hT13 ⊢
  go_wp2_with (first
    | (go_at_call 7; refine (pu_b wakes_pu (told_mono hb14 hT13) rfl).mono ?_; rintro e w15 ⟨rfl, hb15⟩)
    | (go_at_call 13; refine (pu_b (sameFrames_in hd) hT13 ⟨_, _, rfl, hDy, _, _, rfl, hDl, rfl⟩).mono ?_; rintro e w14 ⟨rfl, hb14⟩))
  go_ret
  exact ⟨rfl, hB13.trans ((hb14.trans (hb15.mono hb14.size)).mono hB13.size)⟩
end Go.Proofs.YtgjfdbbghefdbaaGreatDoor.Lt
