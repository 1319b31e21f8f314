/-
  frame.Back over data: a code frame comes to light, and takes the value. Conditions: as said.
-/
import Derived.Test.YtgjfdbbghefdbaaGreatDoorLt12
namespace Go.Proofs.YtgjfdbbghefdbaaGreatDoor.Lt
open Go.RowKit Sx Dd Fa Fa.C1
set_option maxRecDepth 100000
/-- A block of a term's cells. -/
def BoxT (b : Nat) (C : Array Value) (W : World) : Prop := W.heap[b]? = some (.cells C 26 (0, 0))
theorem BoxT.cell {b : Nat} {C : Array Value} {W : World} (h : BoxT b C W) (o : Nat) : W.cell? ⟨b, o, none⟩ = C[o]? := Sx.cell_at h o
theorem BoxT.below {b : Nat} {C : Array Value} {W W' : World} (h : BoxT b C W) (hb : Below W.heap.size W W') : BoxT b C W' := (hb.block b (Array.getElem?_eq_some_iff.1 h).1).trans h
theorem BoxT.lt {b : Nat} {C : Array Value} {W : World} (h : BoxT b C W) : b < W.heap.size := (Array.getElem?_eq_some_iff.1 h).1
theorem StRow.below {w w' : World} {M : Mem} {B n k : Nat} {rows : List (List Dat)} {f : Nat → Value} {g : Nat → Nat} (h : StRow w M B n k rows f g) (hb : Below w.heap.size w w') : StRow w' M B n k rows f g := by
  obtain ⟨h1, h2, h3, h4⟩ := h
  exact ⟨row_below h1 hb, h2, Nat.le_trans h3 hb.size, fun i hi => by
    obtain ⟨a1, a2, r, a3, a4⟩ := h4 i hi
    exact ⟨a1, a2, r, a3, a4.below hb⟩⟩
theorem StRow.drew {w : World} {M : Mem} {B n k : Nat} {rows : List (List Dat)} {f : Nat → Value} {g : Nat → Nat} (h : StRow w M B n k rows f g) : StRow w.drew M B n k rows f g := h.below ((Below.refl _ w).drew)
/-- What the last frame's own stack is. -/
theorem StRow.stk {w : World} {M : Mem} {B n k : Nat} {rows : List (List Dat)} {f : Nat → Value} {g : Nat → Nat} (h : StRow w M B n (k + 1) rows f g) {row : List Dat} (hr : rows[k]? = some row) :
    ∃ lo hi, g k ≤ lo ∧ lo ≤ hi ∧ hi ≤ g (k + 1) ∧ OwnSl w M lo hi 26 (row.getD 5 .o) (f (k * 35 + 5)) := by
  obtain ⟨_, a2, r, a3, a4⟩ := h.2.2.2 k (by omega)
  rw [hr] at a3
  cases a3
  obtain ⟨a1, b2, b3, b4, b5, b6, l1, l2, l3, l4, l5, l6, l7, h1, h2, h3, h4, h5, h6, h7⟩ := a4.own
  have e5 : (cut f k).getD 5 undef = f (k * 35 + 5) := by
    rw [cut, List.getD_eq_getElem?_getD, List.getElem?_map, List.getElem?_range (by omega)]
    rfl
  rw [e5] at h3
  exact ⟨b2, b3, by omega, by omega, by omega, h3⟩
/-- The row behind an append of some rows' cells that are then written over. -/
theorem own_over {w : World} {lo e size n cap g : Nat} {xs zs ts : List Value} (h : w.ownsRow lo e size (.slice (some ⟨g, 0, none⟩) n cap) n (xs ++ zs)) (hz : zs.length = ts.length) : (w.setCells g xs.length ts).ownsRow lo e size (.slice (some ⟨g, 0, none⟩) n cap) n (xs ++ ts) := by
  obtain ⟨h1, h2⟩ := h
  refine ⟨by rw [List.length_append, ← hz, ← List.length_append]; exact h1, ?_⟩
  rcases h2 with ⟨e, _⟩ | ⟨g', cap', cur, e1, e2, e3, e4, e5, e6, e7⟩
  · cases e
  · cases e1
    have hr : w.rowIs g e cur.size (fun i => cur.getD i undef) := ⟨cur, e3, rfl, fun i hi => by simp [Array.getD_eq_getD_getElem?, hi]⟩
    obtain ⟨C, c1, c2, c3⟩ := rowIs_setCells ts xs.length w _ hr
    refine .inr ⟨g, cap, C, rfl, e2, c1, e4, e5, by rw [c2]; exact e6, ?_⟩
    have hcs : n * size ≤ cur.size := by rw [e6]; exact Nat.mul_le_mul_right _ e4
    have hL : (xs ++ zs).length = n * size := h1
    rw [List.length_append] at hL
    refine List.ext_getElem? fun j => ?_
    by_cases hj : j < n * size
    · rw [List.getElem?_take_of_lt hj, Array.getElem?_toList, c3 j (by omega)]
      show some (if xs.length ≤ j ∧ j < xs.length + ts.length then ts[j - xs.length]?.getD default else cur.getD j undef) = _
      by_cases hx : j < xs.length
      · rw [if_neg (by omega), List.getElem?_append_left hx, Array.getD_eq_getD_getElem?]
        have : (cur.toList.take (n * size))[j]? = (xs ++ zs)[j]? := by rw [e7]
        rw [List.getElem?_take_of_lt hj, Array.getElem?_toList, List.getElem?_append_left hx, List.getElem?_eq_getElem hx] at this
        rw [this, List.getElem?_eq_getElem hx]
        rfl
      · rw [if_pos (by omega), List.getElem?_append_right (by omega)]
        have : j - xs.length < ts.length := by omega
        rw [List.getElem?_eq_getElem this]
        rfl
    · rw [List.getElem?_eq_none (by rw [List.length_take, Array.length_toList]; omega), List.getElem?_eq_none (by rw [List.length_append]; omega)]
theorem own_there {w : World} {lo e size n cap g o m : Nat} {xs : List Value} (h : w.ownsRow lo e size (.slice (some ⟨g, 0, none⟩) n cap) n xs) (hm : o + m ≤ n * size) : w.there g o m := by
  rcases h.2 with ⟨e, _⟩ | ⟨g', cap', cur, e1, e2, e3, e4, e5, e6, e7⟩
  · cases e
  · cases e1
    have hcs : n * size ≤ cur.size := by rw [e6]; exact Nat.mul_le_mul_right _ e4
    intro j hj
    refine ⟨?_, by simp [World.frozen?, e3]⟩
    rw [Sx.cell_at e3, Array.getElem?_eq_getElem (by omega)]
    rfl
theorem own_other {w w' : World} {lo e size n cap g : Nat} {xs : List Value} (h : w.ownsRow lo e size (.slice (some ⟨g, 0, none⟩) n cap) n xs) (hg : w'.heap[g]? = w.heap[g]?) : w'.ownsRow lo e size (.slice (some ⟨g, 0, none⟩) n cap) n xs := by
  refine ⟨h.1, ?_⟩
  rcases h.2 with ⟨e, _⟩ | ⟨g', cap', cur, e1, e2, e3, e4⟩
  · cases e
  · cases e1
    exact .inr ⟨g, cap, cur, rfl, e2, hg.trans e3, e4⟩
/-- The last frame's stack is put anew. -/
theorem push_fin {w w' : World} {M : Mem} {s B n k : Nat} (hsB : s ≤ B) {rows : List (List Dat)} {f : Nat → Value} {g : Nat → Nat} (hSt : StRow w M B n (k + 1) rows f g) (hn : k + 1 ≤ n) (hM : M.le (memNot M s B w')) {row : List Dat} (hr : rows[k]? = some row)
    {xs : List Value} {g5 c5 lo : Nat} {trs : List (List Dat)} (hown : w'.ownsRow lo 26 5 (.slice (some ⟨g5, 0, none⟩) trs.length c5) trs.length xs) (hB : g5 ≠ B) (hs5 : s ≤ g5)
    (hrd : ∀ (i : Nat) (r : List Dat), trs[i]? = some r → Dd.Good lay M (lay 26) r ((xs.drop (i * 5)).take 5)) (hkeep : Keeps w w' B (f (k * 35 + 5)))
    (hrow : w'.rowIs B 43 (n * 35) (fun x => if x = k * 35 + 5 then .slice (some ⟨g5, 0, none⟩) trs.length c5 else f x)) :
    StIn M s w' B n (k + 1) (rows.set k (row.set 5 (.r trs))) (fun x => if x = k * 35 + 5 then .slice (some ⟨g5, 0, none⟩) trs.length c5 else f x) := by
  obtain ⟨hl, hat, hpart⟩ := hSt.part hsB hM hkeep hr
  have hlen : k < rows.length := (List.getElem?_eq_some_iff.1 hr).1
  have hown' : w'.ownsRow g5 26 5 (.slice (some ⟨g5, 0, none⟩) trs.length c5) trs.length xs := by
    refine ⟨hown.1, ?_⟩
    rcases hown.2 with ⟨e, _⟩ | ⟨g', cap', cur, e1, e2, e3⟩
    · cases e
    · cases e1
      exact .inr ⟨g5, c5, cur, rfl, Nat.le_refl _, e3⟩
  have h5 : DR lay (memNot M s B w') (.sl 26) (.r trs) (.slice (some ⟨g5, 0, none⟩) trs.length c5) := by
    rcases hown'.2 with ⟨e, _⟩ | ⟨g', cap', cur, e1, e2, e3, e4, e5, e6, e7⟩
    · cases e
    · cases e1
      have hsz : trs.length * 5 ≤ cur.size := by rw [e6]; exact Nat.mul_le_mul_right _ e4
      refine .sl 26 (.r trs) g5 0 c5 (fun i j => cur.getD (i * 5 + j) undef) e4 (fun i r hi => (hrd i r hi).l1) (fun i r hi j hj => ⟨cur, by rw [memNot_of hB hs5]; exact memOf_at e3, ?_⟩) (fun i r hi j k u hk hu => ?_)
      · have hi' : i < trs.length := (List.getElem?_eq_some_iff.1 hi).1
        have hj : j < 5 := hj
        rw [Nat.zero_add]
        show cur[i * 5 + j]? = _
        rw [Array.getElem?_eq_getElem (by omega)]
        simp [Array.getD_eq_getD_getElem?, show i * 5 + j < cur.size by omega]
      · have hi' : i < trs.length := (List.getElem?_eq_some_iff.1 hi).1
        have hj : j < 5 := (List.getElem?_eq_some_iff.1 hk).1
        refine ((hrd i r hi).dr j k u _ hk hu ?_).mono hM
        rw [List.getElem?_take_of_lt hj, List.getElem?_drop, ← e7, List.getElem?_take_of_lt (by omega), Array.getElem?_toList, Array.getElem?_eq_getElem (by omega)]
        simp [Array.getD_eq_getD_getElem?, show i * 5 + j < cur.size by omega]
  refine hSt.rest hsB hn hM hkeep hat hrow (fun q hq => if_neg (by omega)) (fun i hi => by rw [List.getElem?_set_ne (by omega)]) (row' := row.set 5 (.r trs)) (by simp [hlen]) ⟨by simp [hl]; rfl, by rw [cut_length]; rfl, fun j kd u v h1 h2 h3 => ?_⟩
  have hj : j < 35 := (List.getElem?_eq_some_iff.1 h1).1
  rw [cut, List.getElem?_map, List.getElem?_range hj] at h3
  cases h3
  by_cases e : j = 5
  · subst e
    cases h1
    rw [List.getElem?_set_self (by omega)] at h2
    cases h2
    show DR lay _ _ _ (if k * 35 + 5 = k * 35 + 5 then _ else _)
    rw [if_pos rfl]
    exact h5
  · rw [List.getElem?_set_ne (Ne.symm e)] at h2
    show DR lay _ _ _ (if k * 35 + j = k * 35 + 5 then _ else _)
    rw [if_neg (by omega)]
    have := hpart j kd e h1
    rwa [show row.getD j .o = u by simp [List.getD_eq_getElem?_getD, h2]] at this
theorem noL_no {late : Nat → Bool} {l : Array Bool} {S : Prop} (i : Nat) (h : late i = true) (hl : l.getD i false = true) : NoL late l → S := fun n => by
  have := n i h
  rw [hl] at this
  cases this
theorem term_info : ∃ i0, Tryz.prog.info? 26 = some i0 ∧ i0.zero = some (.agg #[.int .i8 0, .int .i64 0, .string ⟨#[]⟩, .string ⟨#[]⟩, .slice none 0 0]) ∧ i0.size = 5 ∧ i0.bytes = 72 := by
  obtain ⟨i0, e0⟩ : ∃ i0, Tryz.prog.info? 26 = some i0 := Option.isSome_iff_exists.1 (by kernel_rfl)
  have e1 : (Tryz.prog.info? 26).map (fun i => (i.zero, i.size, i.bytes)) = some (some (.agg #[.int .i8 0, .int .i64 0, .string ⟨#[]⟩, .string ⟨#[]⟩, .slice none 0 0]), 5, 72) := by kernel_rfl
  rw [e0] at e1
  simp only [Option.map_some, Option.some.injEq, Prod.mk.injEq] at e1
  exact ⟨i0, e0, e1⟩
set_option maxHeartbeats 4000000 in
theorem back_code {M : Mem} {w : World} {d : Dat} {p : Option Addr} {n c : Nat} {ts : Array Value} {trow : List Dat} (hM : MemOk M w) (h : DR lay M (.sl 43) d (.slice p n c)) (hn : d.rows.length = n) (h2 : 2 ≤ n) (hb : n ≤ 120) (hs : ∀ row, row ∈ d.rows → Short row) {row : List Dat} (hrow0 : d.rows[n - 2]? = some row) (hkn : (row.getD 0 .o).int = 0)
    (ht : Dd.Good lay M (lay 26) trow ts.toList) :
    Calls Tryz.prog 10 #[.slice p n c, .agg ts] w fun e w' => ∃ B f, e = .returned (.tuple #[.slice (some ⟨B, 0, none⟩) (n - 1) (n - 1), .bool false, .bool false]) ∧ w.heap.size ≤ B ∧ StIn M w.heap.size w' B (n - 1) (n - 1) ((d.rows.take (n - 1)).set (n - 2) (row.set 5 (.r ((row.getD 5 .o).rows ++ [trow])))) f ∧ Below w.heap.size w w' := by
  have hl : (Dat.r (d.rows.take (n - 1))).rows.length = n - 1 := by show (d.rows.take (n - 1)).length = _; rw [List.length_take]; omega
  have hd := dr_take h (show n - 1 ≤ n by omega)
  have hsh : ∀ row, row ∈ (Dat.r (d.rows.take (n - 1))).rows → Short row := fun row hr => hs row (List.mem_of_mem_take hr)
  have hcap : n - 1 ≤ c := by
    cases h with
    | nil => omega
    | sl _ _ b o _ val h1 => omega
  have hshr : Short row := hs row (List.mem_of_getElem? hrow0)
  obtain ⟨q, rfl⟩ : ∃ q, n = q + 2 := ⟨n - 2, by omega⟩
  rw [show q + 2 - 1 = q + 1 by omega] at hd hsh hl hcap ⊢
  rw [show q + 2 - 2 = q by omega] at hrow0 ⊢
  have hcall : ∀ W, Below w.heap.size w W → _ := fun W hW => stack_in (w := W) (memOk_below hM hW) (d := .r (d.rows.take (q + 1))) (p := p) (c := c) (by rw [hl]; exact hd) (by rw [hl]; omega) hsh
  rw [hl] at hcall
  have hn' := Lib.hid hn
  clear hl hd hsh hn
  have hrow : (Dat.r (d.rows.take (q + 1))).rows[q]? = some row := by
    show (d.rows.take (q + 1))[q]? = _
    rw [List.getElem?_take_of_lt (by omega)]
    exact hrow0
  have hkn' : (row[0]?.getD Dat.o).int = 0 := by simpa [List.getD_eq_getElem?_getD] using hkn
  have htl : ts.size = 5 := by have h5 := ht.l2; rw [show (lay 26).length = 5 by rfl] at h5; simpa using h5
  have hts := Lib.hid htl
  clear htl
  go_enter Tryz.func10, Tryz.ntmps10
  go_wp2_with (go_at_call 18; refine (hcall _ ((Below.refl _ w).alloc (Nat.le_refl _) _)).mono ?_; rintro e W2 ⟨B, f, g, rfl, hlB, hSt, hb2⟩; have hkd := hSt.kind (i := q) (by omega) (by omega) hrow; dsimp only)
  have hX0 : BoxT w.heap.size ts W2 := by
    refine BoxT.below (W := w.alloc (.cells ts 26)) ?_ hb2
    show (w.heap.push _)[w.heap.size]? = _
    exact Array.getElem?_push_size
  have hB2 : Below w.heap.size w W2 := ((Below.refl _ w).alloc (Nat.le_refl _) _).trans (hb2.mono (by simp))
  have hlB' : w.heap.size + 1 ≤ B := by have := hlB; simp at this; omega
  clear hlB hb2
  obtain ⟨lo, hi, hlo, hlohi, hhi, hO⟩ := hSt.stk hrow
  have hC5 := hSt.1.cell (i := q * 35 + 5) (by omega)
  generalize hv5 : f (q * 35 + 5) = v5 at hO hC5
  obtain ⟨p5, c5, e5⟩ := hO.sl
  have hlen5 : (row.getD 5 .o).rows.length ≤ 1200 := hshr.2.2.1
  generalize hn5 : (row.getD 5 .o).rows.length = n5 at e5 hlen5
  subst e5
  have hn5' := Lib.hid hn5
  have hv5' := Lib.hid hv5
  clear hn5 hv5
  refine region_late [9, 12] (fun W => BoxT w.heap.size ts W ∧ W.cell? ⟨B, q * 35 + 5, none⟩ = some (.slice p5 n5 c5)) (by kernel_rfl) ⟨hX0, hC5⟩ (fun hHeld => ?_)
  have hSt1 : StRow W2.drew M B (q + 1) (q + 1) (Dat.r (d.rows.take (q + 1))).rows f g := hSt.drew
  have hO1 : OwnSl W2.drew M lo hi 26 (row.getD 5 .o) (.slice p5 n5 c5) := hO.below ((Below.refl _ W2).drew)
  have hB3 : Below w.heap.size w W2.drew := hB2.drew
  clear hX0 hC5 hB2 hSt hO
  generalize W2.drew = W3 at hHeld hSt1 hO1 hB3 ⊢
  refine anyL_take (i := 4) (v := .agg ts) rfl (by kernel_rfl) (by kernel_rfl) (by kernel_rfl) (fun _ _ _ h => h) (by kernel_rfl) (by kernel_rfl) (by kernel_rfl) (yieldsIf_load_mid rfl 26 _ rfl w.heap.size 0 rfl ts.toList _ (fun W hSw j v hv => (by rw [Nat.zero_add]; exact (hSw.1.cell j).trans (by simpa using hv))) Tryz.underlying26 rfl (by rw [show ts.toList.length = 5 by simpa using hts.out]; kernel_rfl)) hHeld ?_
  (try simp only [List.getElem_toArray, Act.put, List.setIfInBounds_toArray])
  refine anyL_addr (i := 0) (v := ?_) rfl (by kernel_rfl) (by kernel_rfl) (by kernel_rfl) (fun _ _ _ h => h) (by kernel_rfl) (Or.inl ⟨by rfl, ?_⟩) (by assumption) ?_
  rotate_left 1
  (intro W hSw; go_simp; try with_reducible rfl)
  (try simp only [List.getElem_toArray, List.getElem_cons_succ, List.getElem_cons_zero, Act.put, List.setIfInBounds_toArray, List.set_cons_zero, List.set_cons_succ])
  refine anyL_addr (i := 1) (v := ?_) rfl (by kernel_rfl) (by kernel_rfl) (by kernel_rfl) (fun _ _ _ h => h) (by kernel_rfl) (Or.inl ⟨by rfl, ?_⟩) (by assumption) ?_
  rotate_left 1
  (intro W hSw; go_simp; try with_reducible rfl)
  (try simp only [List.getElem_toArray, List.getElem_cons_succ, List.getElem_cons_zero, Act.put, List.setIfInBounds_toArray, List.set_cons_zero, List.set_cons_succ])
  refine anyL_addr (i := 2) (v := ?_) rfl (by kernel_rfl) (by kernel_rfl) (by kernel_rfl) (fun _ _ _ h => h) (by kernel_rfl) (Or.inl ⟨by rfl, ?_⟩) (by assumption) ?_
  rotate_left 1
  (intro W hSw; go_simp; try with_reducible rfl)
  (try simp only [List.getElem_toArray, List.getElem_cons_succ, List.getElem_cons_zero, Act.put, List.setIfInBounds_toArray, List.set_cons_zero, List.set_cons_succ])
  refine anyL_take (i := 3) (v := ?_) rfl (by kernel_rfl) (by kernel_rfl) (by kernel_rfl) (fun _ _ _ h => h) (by kernel_rfl) (by kernel_rfl) (by kernel_rfl) (Or.inl ⟨by rfl, ?_⟩) (by assumption) ?_
  rotate_left 1
  (intro W hSw; have c := hSw.2; go_simp; try with_reducible rfl)
  (try simp only [List.getElem_toArray, List.getElem_cons_succ, List.getElem_cons_zero, Act.put, List.setIfInBounds_toArray, List.set_cons_zero, List.set_cons_succ])
  refine anyL_addr (i := 5) (v := ?_) rfl (by kernel_rfl) (by kernel_rfl) (by kernel_rfl) (fun _ _ _ h => h) (by kernel_rfl) (Or.inl ⟨by rfl, ?_⟩) (by assumption) ?_
  rotate_left 1
  (intro W hSw; go_simp; try with_reducible rfl)
  (try simp only [List.getElem_toArray, List.getElem_cons_succ, List.getElem_cons_zero, Act.put, List.setIfInBounds_toArray, List.set_cons_zero, List.set_cons_succ])
  refine anyL_one (i := 6) (by kernel_rfl) rfl (fun K hK => ?_)
  go_simp
  have hX4 : BoxT w.heap.size ts (W3.alloc (.cells #[.int .i8 0, .int .i64 0, .string ⟨#[]⟩, .string ⟨#[]⟩, .slice none 0 0] 26)) := hHeld.1.below ((Below.refl _ W3).alloc (Nat.le_refl _) _)
  have hA4 := (Below.refl W3.heap.size W3).alloc (Nat.le_refl _) (.cells #[.int .i8 0, .int .i64 0, .string ⟨#[]⟩, .string ⟨#[]⟩, .slice none 0 0] 26)
  have hZ4 : (W3.alloc (.cells #[.int .i8 0, .int .i64 0, .string ⟨#[]⟩, .string ⟨#[]⟩, .slice none 0 0] 26)).heap[W3.heap.size]? = some (.cells #[.int .i8 0, .int .i64 0, .string ⟨#[]⟩, .string ⟨#[]⟩, .slice none 0 0] 26 (0, 0)) := by
    show (W3.heap.push _)[W3.heap.size]? = _
    exact Array.getElem?_push_size
  have hSt4 := hSt1.below hA4
  have hO4 := hO1.below hA4
  have hB4 := hB3.trans (hA4.mono hB3.size)
  have hC4 := (row_below hSt1.1 hA4).cell (i := q * 35 + 5) (by omega)
  rw [hv5'.out] at hC4
  refine hK.out _ _ (fun _ => ⟨hX4, hC4⟩) (fun hHeld => ?_)
  clear hK K hHeld
  (try simp only [List.getElem_toArray, List.getElem_cons_succ, List.getElem_cons_zero, Act.put, List.setIfInBounds_toArray, List.set_cons_zero, List.set_cons_succ])
  have hZB : B < W3.heap.size := by obtain ⟨C, e, _⟩ := hSt1.1; exact (Array.getElem?_eq_some_iff.1 e).1
  generalize W3.alloc (.cells #[.int .i8 0, .int .i64 0, .string ⟨#[]⟩, .string ⟨#[]⟩, .slice none 0 0] 26) = W4 at hX4 hZ4 hSt4 hO4 hB4 hC4 ⊢
  clear hSt1 hO1 hB3 hA4
  generalize W3.heap.size = Z at hZ4 hZB ⊢
  refine anyL_one (i := 7) (by kernel_rfl) rfl (fun K hK => ?_)
  rw [if_pos (by kernel_rfl)]
  obtain ⟨i0, z0, z1, z2, z3⟩ := term_info
  obtain ⟨xs, ho, hlt, hgd⟩ := hO4
  have hat5 : ∀ x, (Value.slice p5 n5 c5).ownBlock = some x → lo ≤ x ∧ x < hi := fun x hx => OwnSl.at (d := row.getD 5 .o) (T := 26) ⟨xs, ho, hlt, hgd⟩ hx
  rw [hn5'.out] at ho
  have hgq : B < g q := by
    obtain ⟨_, a2, _⟩ := hSt4.2.2.2 q (by omega)
    exact a2
  have hhs : hi ≤ W4.heap.size := Nat.le_trans hhi hSt4.2.2.1
  refine wp_append_lies _ _ _ 24 rfl lo 26 i0 _ 5 72 (by kernel_rfl) z0 z1 z2 z3 (by decide) (by decide) (.slice p5 n5 c5) n5 xs rfl ho ⟨Z, 0, none⟩ 1 1 [.int .i8 0, .int .i64 0, .string ⟨#[]⟩, .string ⟨#[]⟩, .slice none 0 0] rfl rfl (fun j u hu => by rw [Addr.add_mid, Nat.zero_add]; exact (Sx.cell_at hZ4 j).trans (by simpa using hu)) (fun u hu => by simp only [List.mem_cons, List.not_mem_nil, or_false] at hu; rcases hu with rfl | rfl | rfl | rfl | rfl <;> rfl) (by decide) (by unfold maxLen; omega) (by omega) (by have := hat5; have := hSt4.2.2.1; have := (Array.getElem?_eq_some_iff.1 hZ4).1; omega) W4.heap.size rfl ?_
  intro g5 cap5 W5 hown5 hgrow hwhere hlt5
  have hX5 : BoxT w.heap.size ts W5 := (hgrow.block _ hX4.lt (fun e => by have := (hat5 _ e.symm).1; omega)).trans hX4
  have hB5 : Below w.heap.size w W5 := hB4.grown hgrow hB4.size (fun k hk => by have := (hat5 k hk).1; omega)
  have hBne : ∀ x, (Value.slice p5 n5 c5).ownBlock = some x → B ≠ x := fun x hx => by have := (hat5 x hx).1; omega
  have hBlt : B < W4.heap.size := by obtain ⟨C, e, _⟩ := hSt4.1; exact (Array.getElem?_eq_some_iff.1 e).1
  have hR5 : W5.rowIs B 43 ((q + 1) * 35) f := hSt4.1.of_block (hgrow.block _ hBlt (fun e => hBne _ e.symm rfl))
  have hC5 := hR5.cell (i := q * 35 + 5) (by omega)
  have hF5 := hR5.frozen (q * 35 + 5)
  rw [hv5'.out] at hC5
  refine hK.out _ _ (fun _ => ⟨hX5, hC5⟩) (fun hHeld => ?_)
  replace hHeld := hHeld (noB_spec (by kernel_rfl))
  clear hK K
  (try simp only [List.getElem_toArray, List.getElem_cons_succ, List.getElem_cons_zero, Act.put, List.setIfInBounds_toArray, List.set_cons_zero, List.set_cons_succ])
  have hg5B : g5 ≠ B := by
    rcases hwhere with e | e
    · exact Ne.symm (hBne _ e)
    · omega
  have hg5w : w.heap.size ≤ g5 := by
    rcases hwhere with e | e
    · have := (hat5 _ e).1; omega
    · have := hB4.size; omega
  refine anyL_addr (i := 8) (v := ?_) rfl (by kernel_rfl) (by kernel_rfl) (by kernel_rfl) (fun _ _ _ h => h) (by kernel_rfl) (Or.inl ⟨by rfl, ?_⟩) (by assumption) ?_
  rotate_left 1
  (intro W hSw; go_simp; rw [if_pos (by omega)])
  (try simp only [List.getElem_toArray, List.getElem_cons_succ, List.getElem_cons_zero, Act.put, List.setIfInBounds_toArray, List.set_cons_zero, List.set_cons_succ])
  refine anyL_addr (i := 10) (v := ?_) rfl (by kernel_rfl) (by kernel_rfl) (by kernel_rfl) (fun _ _ _ h => h) (by kernel_rfl) (Or.inl ⟨by rfl, ?_⟩) (by assumption) ?_
  rotate_left 1
  (intro W hSw; go_simp; try with_reducible rfl)
  (try simp only [List.getElem_toArray, List.getElem_cons_succ, List.getElem_cons_zero, Act.put, List.setIfInBounds_toArray, List.set_cons_zero, List.set_cons_succ])
  refine anyL_addr (i := 11) (v := ?_) rfl (by kernel_rfl) (by kernel_rfl) (by kernel_rfl) (fun _ _ _ h => h) (by kernel_rfl) (Or.inl ⟨by rfl, ?_⟩) (by assumption) ?_
  rotate_left 1
  (intro W hSw; go_simp; try with_reducible rfl)
  (try simp only [List.getElem_toArray, List.getElem_cons_succ, List.getElem_cons_zero, Act.put, List.setIfInBounds_toArray, List.set_cons_zero, List.set_cons_succ])
  have hd4 : (row.getD 5 .o).rows.length = n5 := hn5'.out
  have hxl : xs.length = n5 * 5 := ho.1
  have fin : ∀ W7 : World, W7.rowIs B 43 ((q + 1) * 35) (fun x => if x = q * 35 + 5 then .slice (some ⟨g5, 0, none⟩) (n5 + 1) cap5 else f x) → W7.ownsRow lo 26 5 (.slice (some ⟨g5, 0, none⟩) (n5 + 1) cap5) (n5 + 1) (xs ++ ts.toList) → (∀ b, b < W5.heap.size → b ≠ B → b ≠ g5 → W7.heap[b]? = W5.heap[b]?) → Below w.heap.size w W7 →
      ∃ B_1 f_1, Ending.returned (Value.tuple #[Value.slice (some ⟨B, 0, none⟩) (q + 1) (q + 1), .bool false, .bool false]) = .returned (.tuple #[.slice (some ⟨B_1, 0, none⟩) (q + 1) (q + 1), .bool false, .bool false]) ∧ w.heap.size ≤ B_1 ∧ StIn M w.heap.size W7 B_1 (q + 1) (q + 1) ((d.rows.take (q + 1)).set q (row.set 5 (.r ((row.getD 5 .o).rows ++ [trow])))) f_1 ∧ Below w.heap.size w W7 := fun W7 r1 r2 r3 r4 => by
    refine ⟨B, (fun x => if x = q * 35 + 5 then .slice (some ⟨g5, 0, none⟩) (n5 + 1) cap5 else f x), rfl, by omega, ?_, r4⟩
    have hlt' : ((row.getD 5 .o).rows ++ [trow]).length = n5 + 1 := by rw [List.length_append, hd4]; rfl
    have hKeep : Keeps W4 W7 B (f (q * 35 + 5)) := fun b hb hbB hbx => by
      rw [hv5'.out] at hbx
      have hb5 : W5.heap[b]? = W4.heap[b]? := hgrow.block _ hb (fun e => hbx b e.symm rfl)
      refine (r3 b (Nat.lt_of_lt_of_le hb hgrow.size) hbB ?_).trans hb5
      rcases hwhere with e | e
      · exact hbx _ e
      · omega
    have key := push_fin (s := w.heap.size) (by omega) (w := W4) (w' := W7) (trs := (row.getD 5 .o).rows ++ [trow]) (xs := xs ++ ts.toList) (g5 := g5) (c5 := cap5) (lo := lo) hSt4 (Nat.le_refl _) (le_memNot hM (by omega)) hrow (by rw [hlt']; exact r2) hg5B hg5w (fun i r hi => ?_) hKeep (by rw [hlt']; exact r1)
    · rw [hlt'] at key
      exact key
    · by_cases hin : i < n5
      · rw [List.getElem?_append_left (by rw [hd4]; exact hin)] at hi
        have := hgd i r hi
        rw [show (lay 26).length = 5 by rfl] at this
        have hec : ((xs ++ ts.toList).drop (i * 5)).take 5 = (xs.drop (i * 5)).take 5 := by
          rw [List.drop_append_of_le_length (by omega), List.take_append_of_le_length (by rw [List.length_drop]; omega)]
        rw [hec]
        exact this
      · have hie : i = n5 := by
          have := (List.getElem?_eq_some_iff.1 hi).1
          rw [hlt'] at this
          omega
        subst hie
        rw [List.getElem?_append_right (by rw [hd4]; exact Nat.le_refl _), hd4, Nat.sub_self] at hi
        cases hi
        have htl : ts.toList.length = 5 := by simpa using hts.out
        rw [List.drop_append_of_le_length (by omega), List.drop_of_length_le (by omega), List.nil_append, List.take_of_length_le (by omega)]
        exact ht
  have htl : ts.toList.length = 5 := by simpa using hts.out
  have hone : ts.all (·.oneCell') = true := by
    have := all_oneCell_toArray (cs := ts.toList) fun v hv => by
      obtain ⟨j, hj, rfl⟩ := List.getElem_of_mem hv
      have hj5 : j < trow.length := by rw [ht.l1]; show j < 5; omega
      exact dr_one (ht.dr j _ _ _ (List.getElem?_eq_getElem (show j < (lay 26).length by show j < 5; omega)) (List.getElem?_eq_getElem hj5) (List.getElem?_eq_getElem hj))
    simpa using this
  have hszt : (Tryz.prog.info? 26).map (·.size) = some ts.size := by rw [hts.out]; kernel_rfl
  refine anyL_two (i := 9) (i2 := 12) (by kernel_rfl) rfl rfl (fun K hK => ?_) (fun K hK => ?_)
  · rw [if_pos (by kernel_rfl)]
    refine wp_store_mid 26 _ _ rfl g5 (n5 * 5) ts rfl rfl (own_there hown5 (by rw [hts.out]; omega)) hszt hone ?_
    have hR6 := rowIs_setCells_other (Ne.symm hg5B) ts.toList (n5 * 5) _ hR5
    have hO6 := own_over hown5 (ts := ts.toList) (by rw [htl]; rfl)
    rw [hxl] at hO6
    have hB6 : Below w.heap.size w (W5.setCells g5 (n5 * 5) ts.toList) := below_setCells hg5w ts.toList (n5 * 5) W5 hB5
    have hk6 : ∀ b, b < W5.heap.size → b ≠ g5 → (W5.setCells g5 (n5 * 5) ts.toList).heap[b]? = W5.heap[b]? := fun b hb hne => World.heap_setCells_other W5 g5 (n5 * 5) ts.toList hb hne
    generalize W5.setCells g5 (n5 * 5) ts.toList = W6 at hR6 hO6 hB6 hk6 ⊢
    refine hK.out _ _ (noL_no 9 rfl (by kernel_rfl)) (fun hHeld => ?_)
    clear hK K hHeld
    (try simp only [List.getElem_toArray, List.getElem_cons_succ, List.getElem_cons_zero, Act.put])
    refine anyL_one (i := 12) (by kernel_rfl) rfl (fun K hK => ?_)
    have hC6 := hR6.cell (i := q * 35 + 5) (by omega)
    have hF6 := hR6.frozen (q * 35 + 5)
    go_simp
    have hR7 := hR6.set (q * 35 + 5) (.slice (some ⟨g5, 0, none⟩) (n5 + 1) cap5)
    obtain ⟨C6, e6, _⟩ := hR6
    obtain ⟨_, s1, s2, _⟩ := Sx.setCell_at (o := q * 35 + 5) e6 (.slice (some ⟨g5, 0, none⟩) (n5 + 1) cap5)
    have hO7 := own_other hO6 (s2 g5 hg5B)
    have hB7 := hB6.setCell (show w.heap.size ≤ (⟨B, q * 35 + 5, none⟩ : Addr).block by show w.heap.size ≤ B; omega) (.slice (some ⟨g5, 0, none⟩) (n5 + 1) cap5)
    have hF := fin _ hR7 hO7 (fun b hb h1 h2 => (s2 b h1).trans (hk6 b hb h2)) hB7
    refine hK.out _ _ (noL_no 9 rfl (by kernel_rfl)) (fun hHeld => ?_)
    clear hK K hHeld
    (try simp only [List.getElem_toArray, List.getElem_cons_succ, List.getElem_cons_zero, Act.put])
    refine anyL_done (by kernel_rfl) ?_ _
    go_wp2
    go_ret3
    exact hF
  · have hD5 := hR5.set (q * 35 + 5) (.slice (some ⟨g5, 0, none⟩) (n5 + 1) cap5)
    go_simp
    obtain ⟨C6, e6, _⟩ := hR5
    obtain ⟨_, s1, s2, _⟩ := Sx.setCell_at (o := q * 35 + 5) e6 (.slice (some ⟨g5, 0, none⟩) (n5 + 1) cap5)
    have hO6 := own_other hown5 (s2 g5 hg5B)
    have hB6 := hB5.setCell (show w.heap.size ≤ (⟨B, q * 35 + 5, none⟩ : Addr).block by show w.heap.size ≤ B; omega) (.slice (some ⟨g5, 0, none⟩) (n5 + 1) cap5)
    generalize W5.setCell ⟨B, q * 35 + 5, none⟩ (.slice (some ⟨g5, 0, none⟩) (n5 + 1) cap5) = W6 at hD5 s1 s2 hO6 hB6 ⊢
    refine hK.out _ _ (noL_no 12 rfl (by kernel_rfl)) (fun hHeld => ?_)
    clear hK K hHeld
    (try simp only [List.getElem_toArray, List.getElem_cons_succ, List.getElem_cons_zero, Act.put])
    refine anyL_one (i := 9) (by kernel_rfl) rfl (fun K hK => ?_)
    rw [if_pos (by kernel_rfl)]
    refine wp_store_mid 26 _ _ rfl g5 (n5 * 5) ts rfl rfl (own_there hO6 (by rw [hts.out]; omega)) hszt hone ?_
    have hR7 := rowIs_setCells_other (Ne.symm hg5B) ts.toList (n5 * 5) _ hD5
    have hO7 := own_over hO6 (ts := ts.toList) (by rw [htl]; rfl)
    rw [hxl] at hO7
    have hB7 : Below w.heap.size w (W6.setCells g5 (n5 * 5) ts.toList) := below_setCells hg5w ts.toList (n5 * 5) W6 hB6
    have hF := fin _ hR7 hO7 (fun b hb h1 h2 => (World.heap_setCells_other W6 g5 (n5 * 5) ts.toList (by rw [s1]; exact hb) h2).trans (s2 b h1)) hB7
    refine hK.out _ _ (noL_no 9 rfl (by kernel_rfl)) (fun hHeld => ?_)
    clear hK K hHeld
    (try simp only [List.getElem_toArray, List.getElem_cons_succ, List.getElem_cons_zero, Act.put])
    refine anyL_done (by kernel_rfl) ?_ _
    go_wp2
    go_ret3
    exact hF
end Go.Proofs.YtgjfdbbghefdbaaGreatDoor.Lt
