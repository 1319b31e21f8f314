/-
  frame.Unwind over data. Conditions: as said.
-/
import Derived.Test.YtgjfdbbghefdbaaGreatDoorLt14
namespace Go.Proofs.YtgjfdbbghefdbaaGreatDoor.Lt
open Go.RowKit Sx Dd Fa Fa.C1
set_option maxRecDepth 100000
/-- How many frames are left when all at the top that take nothing are gone. -/
def down (rows : List (List Dat)) : Nat → Nat
  | 0 => 0
  | k + 1 => if ((rows.getD k []).getD 0 .o).int = 0 ∧ ((rows.getD k []).getD 6 .o).rows.length = 0 then down rows k else k + 1
/-- The atom's row. -/
def arow (cl : Int) : List Dat := [.i 1, .i 0, .s (atomOf cl), .s [], .r []]
/-- The frame that takes an exception. -/
def unRow (row : List Dat) (cl : Int) (trow : List Dat) : List Dat :=
  (((row.set 6 (.r ((row.getD 6 .o).rows.take ((row.getD 6 .o).rows.length - 1)))).set 5 (.r ((row.getD 5 .o).rows.take (min (max (((row.getD 6 .o).rows.getD ((row.getD 6 .o).rows.length - 1) []).getD 1 .o).int 0) (row.getD 5 .o).rows.length).toNat ++ [arow cl, trow]))).set 2 (.i (((row.getD 6 .o).rows.getD ((row.getD 6 .o).rows.length - 1) []).getD 0 .o).int)).set 7 (.i (-1))
theorem StRow.hand {w : World} {M : Mem} {B n k : Nat} {rows : List (List Dat)} {f : Nat → Value} {g : Nat → Nat} (h : StRow w M B n (k + 1) rows f g) {row : List Dat} (hr : rows[k]? = some row) :
    ∃ lo hi, g k ≤ lo ∧ hi ≤ g (k + 1) ∧ OwnSl w M lo hi 63 (row.getD 6 .o) (f (k * 35 + 6)) := by
  obtain ⟨_, a2, r, a3, a4⟩ := h.2.2.2 k (by omega)
  rw [hr] at a3
  cases a3
  obtain ⟨a1, b2, b3, b4, b5, b6, l1, l2, l3, l4, l5, l6, l7, h1, h2, h3, h4, h5, h6, h7⟩ := a4.own
  have e6 := cut_at f k (j := 6) (by omega)
  rw [e6] at h4
  exact ⟨b3, b4, by omega, by omega, h4⟩
/-- The last handler's cells. -/
theorem OwnSl.last {w : World} {M : Mem} {lo hi m c : Nat} {d : Dat} {p : Option Addr} (h : OwnSl w M lo hi 63 d (.slice p (m + 1) c)) (hm : d.rows.length = m + 1) :
    ∃ g, p = some ⟨g, 0, none⟩ ∧ m + 1 ≤ c ∧ w.rangeAt g (m * 2) [.int .i64 ((d.rows.getD m []).getD 0 .o).int, .int .i64 ((d.rows.getD m []).getD 1 .o).int] := by
  obtain ⟨xs, ⟨h1, h2⟩, h3, h4⟩ := h
  rw [hm] at h1 h2
  rcases h2 with ⟨e, _⟩ | ⟨g, cap, cur, e, q1, q2, q3, q4, q5, q6⟩
  · cases e
  · cases e
    refine ⟨g, rfl, q3, fun j v hv => ?_⟩
    have hj : j < 2 := (List.getElem?_eq_some_iff.1 hv).1
    have hrow : d.rows[m]? = some (d.rows.getD m []) := by
      rw [List.getD_eq_getElem?_getD, List.getElem?_eq_getElem (by omega)]
      rfl
    have hg := h4 m _ hrow
    have hl : (lay 63).length = 2 := rfl
    rw [hl] at hg h1 q6
    have hd := dr_at hg j (k := .i .i64) (by have : j = 0 ∨ j = 1 := by omega
                                             rcases this with rfl | rfl <;> rfl)
    have hv' : v = .int .i64 ((d.rows.getD m []).getD j .o).int := by
      have : j = 0 ∨ j = 1 := by omega
      rcases this with rfl | rfl <;> (cases hv; rfl)
    have hcs : (m + 1) * 2 ≤ cur.size := by rw [q5]; exact Nat.mul_le_mul_right _ q3
    rw [Sx.cell_at q2, hv', ← dr_i hd]
    rw [List.getD_eq_getElem?_getD, List.getElem?_take_of_lt hj, List.getElem?_drop, ← q6, List.getElem?_take_of_lt (by omega), Array.getElem?_toList, Array.getElem?_eq_getElem (by omega)]
    rfl
/-- The atom's cells. -/
abbrev acs (cl : Int) (pa : Option Addr) (ca : Nat) : List Value := [.int .i8 1, .int .i64 0, .string (bytesOf (atomOf cl)), .string (bytesOf []), .slice pa 0 ca]
theorem arow_good (M : Mem) (cl : Int) (pa : Option Addr) (ca : Nat) : Dd.Good lay M (lay 26) (arow cl) (acs cl pa ca) := by
  refine ⟨rfl, rfl, fun j k u v h1 h2 h3 => ?_⟩
  have hj : j < 5 := (List.getElem?_eq_some_iff.1 h1).1
  have hc : j = 0 ∨ j = 1 ∨ j = 2 ∨ j = 3 ∨ j = 4 := by omega
  rcases hc with rfl | rfl | rfl | rfl | rfl <;> (cases h1; cases h2; cases h3)
  · exact .i .i8 (.i 1)
  · exact .i .i64 (.i 0)
  · exact .s (.s (atomOf cl)) (atomOf_ok cl)
  · exact .s (.s []) rfl
  · exact .nil _ (.r []) pa ca rfl
theorem fill_two' (z : Array Value) (F G : Nat → Value) : Instr.fill (fun i => some (i * 5, 5)) ((Array.range (2 * 5)).map (z[· % z.size]!)) [(0, .agg ((List.range 5).map F).toArray), (1, .agg ((List.range 5).map G).toArray)] = some (((List.range 5).map F) ++ ((List.range 5).map G)).toArray := by
  kernel_rfl
theorem fill_two {ie : TypeInfo} (hs : ie.size = 5) (z : Value) (a0 a1 a2 a3 a4 : Value) {ts : Array Value} (h : ts.toList.length = 5) : Instr.fill (fun i => some (i * ie.size, ie.size)) ((Array.range (2 * ie.size)).map (z.cells[· % z.cells.size]!)) [(0, .agg #[a0, a1, a2, a3, a4]), (1, .agg ts)] = some ([a0, a1, a2, a3, a4] ++ ts.toList).toArray := by
  have e := spread ts.toList h
  have e2 : ts = ((List.range 5).map fun j => ts.toList.getD j undef).toArray := by rw [← e]
  rw [hs]
  have key := fill_two' z.cells (fun j => [a0, a1, a2, a3, a4].getD j undef) (fun j => ts.toList.getD j undef)
  rw [← e2, ← e] at key
  exact key
theorem down_eq {rows : List (List Dat)} {k : Nat} {row : List Dat} (hr : rows[k]? = some row) : down rows (k + 1) = if (row.getD 0 .o).int = 0 ∧ (row.getD 6 .o).rows.length = 0 then down rows k else k + 1 := by
  have : rows.getD k [] = row := by rw [List.getD_eq_getElem?_getD, hr]; rfl
  rw [down, this]
def lenOf : Value → Nat
  | .slice _ n _ => n
  | _ => 0
set_option maxHeartbeats 8000000 in
theorem unwind_any {M : Mem} {w : World} {d : Dat} {p : Option Addr} {n c : Nat} {ts : Array Value} {trow : List Dat} {cl : Int} (hM : MemOk M w) (hT : ToldM rho.tl M) (h : DR lay M (.sl 43) d (.slice p n c)) (hn : d.rows.length = n) (hb : n ≤ 120) (hs : ∀ row, row ∈ d.rows → Short row)
    (ht : Dd.Good lay M (lay 26) trow ts.toList) (hc1 : -9223372036854775808 ≤ cl) (hc2 : cl ≤ 9223372036854775807) :
    Calls Tryz.prog 8 #[.slice p n c, .int .i8 cl, .agg ts] w fun e w' => Below w.heap.size w w' ∧
      ((down d.rows n = 0 ∧ e = .returned (.tuple #[.slice none 0 0, .bool false, .bool true])) ∨
      ∃ q row B f, down d.rows n = q + 1 ∧ d.rows[q]? = some row ∧ w.heap.size ≤ B ∧
        (((row.getD 0 .o).int ≠ 0 ∧ e = .returned (.tuple #[.slice (some ⟨B, 0, none⟩) (q + 1) (q + 1), .bool true, .bool false]) ∧ StIn M w.heap.size w' B n (q + 1) d.rows f) ∨
         ((row.getD 0 .o).int = 0 ∧ e = .returned (.tuple #[.slice (some ⟨B, 0, none⟩) (q + 1) (q + 1), .bool false, .bool false]) ∧ StIn M w.heap.size w' B n (q + 1) (d.rows.set q (unRow row cl trow)) f))) := by
  have hcall : ∀ W, Below w.heap.size w W → _ := fun W hW => stack_in (w := W) (memOk_below hM hW) (d := d) (p := p) (c := c) (by rw [hn]; exact h) (by omega) hs
  rw [hn] at hcall
  have hrow : ∀ k, k < n → ∃ row, d.rows[k]? = some row ∧ Short row := fun k hk => ⟨_, List.getElem?_eq_getElem (by omega), hs _ (List.getElem_mem _)⟩
  have htl : ts.size = 5 := by have h5 := ht.l2; rw [show (lay 26).length = 5 by rfl] at h5; simpa using h5
  have hts := Lib.hid htl
  have hn' := Lib.hid hn
  have hh' := Lib.hid h
  clear htl hn h
  generalize hR : d.rows = R at hcall hrow hn' ⊢
  have hR' := Lib.hid hR
  clear hR
  go_enter Tryz.func8, Tryz.ntmps8
  go_wp2
  go_step3
  go_wp2_with (go_at_call 18; refine (hcall _ ((Below.refl _ w).alloc (Nat.le_refl _) _)).mono ?_; rintro e W2 ⟨B, f, g, rfl, hlB, hSt, hb2⟩; dsimp only)
  have hX0 : BoxT w.heap.size ts W2 := by
    refine BoxT.below (W := w.alloc (.cells ts 26)) ?_ hb2
    show (w.heap.push _)[w.heap.size]? = _
    exact Array.getElem?_push_size
  have hB2 : Below w.heap.size w W2 := ((Below.refl _ w).alloc (Nat.le_refl _) _).trans (hb2.mono (by simp))
  have hlB' : w.heap.size + 1 ≤ B := by have := hlB; simp at this; omega
  clear hlB hb2 hcall
  go_step3
  go_wp2
  have hlo : ∀ k, k ≤ n → (k : Int) ≤ 120 := fun k hk => by omega
  go_loopw [6] (fun i wr => ∃ k : Nat, k ≤ n ∧ i = .slice (some ⟨B, 0, none⟩) k k ∧ down R n = down R k ∧ wr = W2) (fun i _ => lenOf i)
  case atStart => exact ⟨n, Nat.le_refl _, rfl, rfl, rfl⟩
  case round =>
    obtain ⟨k, hk, rfl, hdn, rfl⟩ := hrel
    rcases Nat.eq_zero_or_pos k with rfl | hk0
    · go_wp2
      rw [Exit.noGoto_ret]
      go_ret3
      exact ⟨hB2, .inl ⟨hdn, rfl⟩⟩
    · obtain ⟨q, rfl⟩ : ∃ q, k = q + 1 := ⟨k - 1, by omega⟩
      obtain ⟨row, hr, hsh⟩ := hrow q (by omega)
      have hkd := hSt.kind (i := q) (by omega) (by omega) hr
      have hde := down_eq hr
      have hSq := hSt.front (k' := q + 1) hk
      obtain ⟨lo6, hi6, hlo6, hhi6, hO6⟩ := hSq.hand hr
      have hC6 := hSt.1.cell (i := q * 35 + 6) (by omega)
      have hF6 := hSt.1.frozen (q * 35 + 6)
      obtain ⟨p6, c6, e6⟩ := hO6.sl
      have hl6 : (row.getD 6 .o).rows.length ≤ 1200 := hsh.2.2.2.1
      generalize hn6 : (row.getD 6 .o).rows.length = n6 at e6 hl6 hde
      generalize hkn : (row.getD 0 .o).int = kn at hkd hde
      rw [e6] at hC6
      have hn6' := Lib.hid hn6
      have hkn' := Lib.hid hkn
      have hde' := Lib.hid hde
      have e6' := Lib.hid e6
      clear hn6 hkn hde e6
      by_cases hk1 : kn = 0
      · subst hk1
        rcases Nat.eq_zero_or_pos n6 with h6 | h6
        · subst h6
          go_wp2
          go_roundw
          case rel => exact ⟨q, by omega, rfl, by rw [hdn, hde'.out, if_pos ⟨rfl, rfl⟩], trivial⟩
          case measure => simp [lenOf]
        · obtain ⟨m6, rfl⟩ : ∃ m6, n6 = m6 + 1 := ⟨n6 - 1, by omega⟩
          have hl := hO6
          rw [e6'.out] at hl
          obtain ⟨g6, rfl, hc6, hrg⟩ := hl.last hn6'.out
          have cA : wr.cell? ⟨g6, m6 * 2, none⟩ = _ := hrg 0 _ rfl
          have cB : wr.cell? ⟨g6, m6 * 2 + 1, none⟩ = _ := hrg 1 _ rfl
          generalize hat : ((((row.getD 6 .o).rows.getD m6 []).getD 0 .o).int) = aT at cA
          generalize hhi : ((((row.getD 6 .o).rows.getD m6 []).getD 1 .o).int) = hI at cB
          have hat' := Lib.hid hat
          have hhi' := Lib.hid hhi
          clear hat hhi
          have hBlt : B < wr.heap.size := by obtain ⟨C, e, _⟩ := hSt.1; exact (Array.getElem?_eq_some_iff.1 e).1
          go_wp2
          have hS3 := hSq.tries hr e6'.out (m6 := m6) (by omega)
          obtain ⟨C3, eC3, _⟩ := hSt.1
          obtain ⟨_, s1, s2, _⟩ := Sx.setCell_at (o := q * 35 + 6) eC3 (.slice (some ⟨g6, 0, none⟩) m6 c6)
          have hX3 : BoxT w.heap.size ts _ := (s2 w.heap.size (by omega)).trans hX0
          have hB3 := hB2.setCell (show w.heap.size ≤ (⟨B, q * 35 + 6, none⟩ : Addr).block by show w.heap.size ≤ B; omega) (.slice (some ⟨g6, 0, none⟩) m6 c6)
          have hxb : ∃ xb, wr.heap.size = xb := ⟨_, rfl⟩
          obtain ⟨xb, hxb⟩ := hxb
          rw [hxb] at s1 ⊢
          clear s2 eC3
          have hgk : g (q + 1) ≤ xb := by rw [← hxb]; exact hSq.2.2.1
          generalize wr.setCell ⟨B, q * 35 + 6, none⟩ (.slice (some ⟨g6, 0, none⟩) m6 c6) = W3 at hS3 hX3 hB3 s1 ⊢
          have hA3 := (Below.refl W3.heap.size W3).alloc (Nat.le_refl _) (.cells #[.int .i64 aT, .int .i64 hI] 63)
          have hS4 := hS3.below hA3
          have hx4 : (W3.alloc (.cells #[.int .i64 aT, .int .i64 hI] 63)).heap[xb]? = some (.cells #[.int .i64 aT, .int .i64 hI] 63 (0, 0)) := by
            rw [← s1]
            show (W3.heap.push _)[W3.heap.size]? = _
            exact Array.getElem?_push_size
          have hX4 := hX3.below hA3
          have hB4 := hB3.trans (hA3.mono hB3.size)
          have hz4 : xb < (W3.alloc (.cells #[.int .i64 aT, .int .i64 hI] 63)).heap.size := by rw [← s1]; show _ < (W3.heap.push _).size; simp
          have hS3s := s1
          clear s1 hS3 hX3 hB3
          generalize W3.alloc (.cells #[.int .i64 aT, .int .i64 hI] 63) = W4 at hS4 hx4 hX4 hB4 hz4 hA3 ⊢
          clear hA3
          have hr4 : (R.set q (row.set 6 (.r ((row.getD 6 .o).rows.take m6))))[q]? = some (row.set 6 (.r ((row.getD 6 .o).rows.take m6))) := List.getElem?_set_self (List.getElem?_eq_some_iff.1 hr).1
          obtain ⟨lo, hi, hlo5, hlohi, hhi5, hO⟩ := hS4.stk hr4
          have e5d : (row.set 6 (Dat.r ((row.getD 6 .o).rows.take m6))).getD 5 .o = row.getD 5 .o := by
            rw [List.getD_eq_getElem?_getD, List.getElem?_set_ne (by omega), ← List.getD_eq_getElem?_getD]
          have hC5 := hS4.1.cell (i := q * 35 + 5) (by omega)
          rw [if_neg (show q * 35 + 5 ≠ q * 35 + 6 by omega)] at hO hC5
          rw [e5d] at hO
          generalize hv5 : f (q * 35 + 5) = v5 at hO hC5
          obtain ⟨p5, c5, e5⟩ := hO.sl
          have hlen5 : (row.getD 5 .o).rows.length ≤ 1200 := hsh.2.2.1
          generalize hn5 : (row.getD 5 .o).rows.length = n5 at e5 hlen5
          subst e5
          have hc5 : n5 ≤ c5 := by
            obtain ⟨xs, ⟨_, ho⟩, _⟩ := hO
            rcases ho with ⟨e, q0⟩ | ⟨g', cap', cur, e, _, _, q3, _⟩
            · cases e; omega
            · cases e; omega
          have hn5' := Lib.hid hn5
          have hv5' := Lib.hid hv5
          clear hn5 hv5
          have hxbB : xb ≠ B := by omega
          have hxw : w.heap.size < xb := by have := hX0.lt; omega
          clear hX0
          have hcx := Sx.cell_at hx4 1
          refine region_late [22] (fun W => BoxT w.heap.size ts W ∧ W.cell? ⟨B, q * 35 + 5, none⟩ = some (.slice p5 n5 c5) ∧ W.cell? ⟨xb, 1, none⟩ = some (.int .i64 hI)) (by kernel_rfl) ⟨hX4, hC5, hcx⟩ (fun hHeld => ?_)
          have hS5 := hS4.drew
          have hO5 := hO.below ((Below.refl _ W4).drew)
          have hB5 : Below w.heap.size w W4.drew := hB4.drew
          have hx5 : W4.drew.heap[xb]? = some (.cells #[.int .i64 aT, .int .i64 hI] 63 (0, 0)) := hx4
          clear hS4 hO hB4 hx4 hX4 hC5 hcx hz4
          generalize W4.drew = W5 at hHeld hS5 hO5 hB5 hx5 ⊢
          refine anyL_addr (i := 0) (v := ?_) rfl (by kernel_rfl) (by kernel_rfl) (by kernel_rfl) (fun _ _ _ h => h) (by kernel_rfl) (Or.inl ⟨by rfl, ?_⟩) (by assumption) ?_
          rotate_left 1
          (intro W hSw; go_simp; try with_reducible rfl)
          (try simp only [List.getElem_toArray, List.getElem_cons_zero, Act.put, List.setIfInBounds_toArray, List.set_cons_zero, List.set_cons_succ])
          refine anyL_addr (i := 1) (v := ?_) rfl (by kernel_rfl) (by kernel_rfl) (by kernel_rfl) (fun _ _ _ h => h) (by kernel_rfl) (Or.inl ⟨by rfl, ?_⟩) (by assumption) ?_
          rotate_left 1
          (intro W hSw; go_simp; try with_reducible rfl)
          (try simp only [List.getElem_toArray, List.getElem_cons_succ, List.getElem_cons_zero, Act.put, List.setIfInBounds_toArray, List.set_cons_zero, List.set_cons_succ])
          refine anyL_addr (i := 2) (v := ?_) rfl (by kernel_rfl) (by kernel_rfl) (by kernel_rfl) (fun _ _ _ h => h) (by kernel_rfl) (Or.inl ⟨by rfl, ?_⟩) (by assumption) ?_
          rotate_left 1
          (intro W hSw; go_simp; try with_reducible rfl)
          (try simp only [List.getElem_toArray, List.getElem_cons_succ, List.getElem_cons_zero, Act.put, List.setIfInBounds_toArray, List.set_cons_zero, List.set_cons_succ])
          refine anyL_addr (i := 3) (v := ?_) rfl (by kernel_rfl) (by kernel_rfl) (by kernel_rfl) (fun _ _ _ h => h) (by kernel_rfl) (Or.inl ⟨by rfl, ?_⟩) (by assumption) ?_
          rotate_left 1
          (intro W hSw; go_simp; try with_reducible rfl)
          (try simp only [List.getElem_toArray, List.getElem_cons_succ, List.getElem_cons_zero, Act.put, List.setIfInBounds_toArray, List.set_cons_zero, List.set_cons_succ])
          refine anyL_take (i := 4) (v := ?_) rfl (by kernel_rfl) (by kernel_rfl) (by kernel_rfl) (fun _ _ _ h => h) (by kernel_rfl) (by kernel_rfl) (by kernel_rfl) (Or.inl ⟨by rfl, ?_⟩) (by assumption) ?_
          rotate_left 1
          (intro W hSw; have c := hSw.2.1; go_simp; try with_reducible rfl)
          (try simp only [List.getElem_toArray, List.getElem_cons_succ, List.getElem_cons_zero, Act.put, List.setIfInBounds_toArray, List.set_cons_zero, List.set_cons_succ])
          refine anyL_addr (i := 5) (v := ?_) rfl (by kernel_rfl) (by kernel_rfl) (by kernel_rfl) (fun _ _ _ h => h) (by kernel_rfl) (Or.inl ⟨by rfl, ?_⟩) (by assumption) ?_
          rotate_left 1
          (intro W hSw; go_simp; try with_reducible rfl)
          (try simp only [List.getElem_toArray, List.getElem_cons_succ, List.getElem_cons_zero, Act.put, List.setIfInBounds_toArray, List.set_cons_zero, List.set_cons_succ])
          refine anyL_take (i := 6) (v := ?_) rfl (by kernel_rfl) (by kernel_rfl) (by kernel_rfl) (fun _ _ _ h => h) (by kernel_rfl) (by kernel_rfl) (by kernel_rfl) (Or.inl ⟨by rfl, ?_⟩) (by assumption) ?_
          rotate_left 1
          (intro W hSw; have c := hSw.2.2; go_simp; try with_reducible rfl)
          (try simp only [List.getElem_toArray, List.getElem_cons_succ, List.getElem_cons_zero, Act.put, List.setIfInBounds_toArray, List.set_cons_zero, List.set_cons_succ])
          refine anyL_addr (i := 7) (v := ?_) rfl (by kernel_rfl) (by kernel_rfl) (by kernel_rfl) (fun _ _ _ h => h) (by kernel_rfl) (Or.inl ⟨by rfl, ?_⟩) (by assumption) ?_
          rotate_left 1
          (intro W hSw; go_simp; try with_reducible rfl)
          (try simp only [List.getElem_toArray, List.getElem_cons_succ, List.getElem_cons_zero, Act.put, List.setIfInBounds_toArray, List.set_cons_zero, List.set_cons_succ])
          refine anyL_addr (i := 8) (v := ?_) rfl (by kernel_rfl) (by kernel_rfl) (by kernel_rfl) (fun _ _ _ h => h) (by kernel_rfl) (Or.inl ⟨by rfl, ?_⟩) (by assumption) ?_
          rotate_left 1
          (intro W hSw; go_simp; try with_reducible rfl)
          (try simp only [List.getElem_toArray, List.getElem_cons_succ, List.getElem_cons_zero, Act.put, List.setIfInBounds_toArray, List.set_cons_zero, List.set_cons_succ])
          refine anyL_addr (i := 9) (v := ?_) rfl (by kernel_rfl) (by kernel_rfl) (by kernel_rfl) (fun _ _ _ h => h) (by kernel_rfl) (Or.inl ⟨by rfl, ?_⟩) (by assumption) ?_
          rotate_left 1
          (intro W hSw; go_simp; try with_reducible rfl)
          (try simp only [List.getElem_toArray, List.getElem_cons_succ, List.getElem_cons_zero, Act.put, List.setIfInBounds_toArray, List.set_cons_zero, List.set_cons_succ])
          refine anyL_addr (i := 10) (v := ?_) rfl (by kernel_rfl) (by kernel_rfl) (by kernel_rfl) (fun _ _ _ h => h) (by kernel_rfl) (Or.inl ⟨by rfl, ?_⟩) (by assumption) ?_
          rotate_left 1
          (intro W hSw; go_simp; try with_reducible rfl)
          (try simp only [List.getElem_toArray, List.getElem_cons_succ, List.getElem_cons_zero, Act.put, List.setIfInBounds_toArray, List.set_cons_zero, List.set_cons_succ])
          refine anyL_take (i := 11) (v := ?_) rfl (by kernel_rfl) (by kernel_rfl) (by kernel_rfl) (fun _ _ _ h => h) (by kernel_rfl) (by kernel_rfl) (by kernel_rfl) (Or.inl ⟨by rfl, ?_⟩) (by assumption) ?_
          rotate_left 1
          (intro W hSw; have c := hSw.2.1; go_simp; try with_reducible rfl)
          (try simp only [List.getElem_toArray, List.getElem_cons_succ, List.getElem_cons_zero, Act.put, List.setIfInBounds_toArray, List.set_cons_zero, List.set_cons_succ])
          refine anyL_addr (i := 12) (v := ?_) rfl (by kernel_rfl) (by kernel_rfl) (by kernel_rfl) (fun _ _ _ h => h) (by kernel_rfl) (Or.inl ⟨by rfl, ?_⟩) (by assumption) ?_
          rotate_left 1
          (intro W hSw; go_simp; try with_reducible rfl)
          (try simp only [List.getElem_toArray, List.getElem_cons_succ, List.getElem_cons_zero, Act.put, List.setIfInBounds_toArray, List.set_cons_zero, List.set_cons_succ])
          obtain ⟨h5, hmin, hle5⟩ : ∃ h5 : Nat, min (max hI 0) (n5 : Int) = (h5 : Int) ∧ h5 ≤ n5 := ⟨(min (max hI 0) (n5 : Int)).toNat, by omega, by omega⟩
          refine anyL_addr (i := 13) (v := ?_) rfl (by kernel_rfl) (by kernel_rfl) (by kernel_rfl) (fun _ _ _ h => h) (by kernel_rfl) (Or.inl ⟨by rfl, ?_⟩) (by assumption) ?_
          rotate_left 1
          (intro W hSw; go_simp; try with_reducible rfl)
          (try simp only [List.getElem_toArray, List.getElem_cons_succ, List.getElem_cons_zero, Act.put, List.setIfInBounds_toArray, List.set_cons_zero, List.set_cons_succ])
          refine anyL_addr (i := 14) (v := ?_) rfl (by kernel_rfl) (by kernel_rfl) (by kernel_rfl) (fun _ _ _ h => h) (by kernel_rfl) (Or.inl ⟨by rfl, ?_⟩) (by assumption) ?_
          rotate_left 1
          (intro W hSw; go_simp; rw [if_pos (by omega)])
          (try simp only [List.getElem_toArray, List.getElem_cons_succ, List.getElem_cons_zero, Act.put, List.setIfInBounds_toArray, List.set_cons_zero, List.set_cons_succ])
          refine anyL_addr (i := 15) (v := ?_) rfl (by kernel_rfl) (by kernel_rfl) (by kernel_rfl) (fun _ _ _ h => h) (by kernel_rfl) (Or.inl ⟨by rfl, ?_⟩) (by assumption) ?_
          rotate_left 1
          (intro W hSw; go_simp; try with_reducible rfl)
          (try simp only [List.getElem_toArray, List.getElem_cons_succ, List.getElem_cons_zero, Act.put, List.setIfInBounds_toArray, List.set_cons_zero, List.set_cons_succ])
          refine anyL_take (i := 17) (v := .agg ts) rfl (by kernel_rfl) (by kernel_rfl) (by kernel_rfl) (fun _ _ _ h => h) (by kernel_rfl) (by kernel_rfl) (by kernel_rfl) (yieldsIf_load_mid rfl 26 _ rfl w.heap.size 0 rfl ts.toList _ (fun W hSw j v hv => (by rw [Nat.zero_add]; exact (hSw.1.cell j).trans (by simpa using hv))) Tryz.underlying26 rfl (by rw [show ts.toList.length = 5 by simpa using hts.out]; kernel_rfl)) hHeld ?_
          (try simp only [List.getElem_toArray, List.getElem_cons_succ, List.getElem_cons_zero, Act.put, List.setIfInBounds_toArray, List.set_cons_zero, List.set_cons_succ])
          refine anyL_one (i := 16) (by kernel_rfl) rfl (fun K hK => ?_)
          go_simp
          refine (atom_any (memOk_below hM hB5) hT cl hc1 hc2).mono ?_
          rintro e W6 ⟨pa, ca, rfl, hb6⟩
          dsimp only
          have hBl5 : B < W5.heap.size := by obtain ⟨C, e, _⟩ := hS5.1; exact (Array.getElem?_eq_some_iff.1 e).1
          have hxl5 : xb < W5.heap.size := (Array.getElem?_eq_some_iff.1 hx5).1
          have hX6 := hHeld.1.below hb6
          have hC6' := (hb6.cell (p := ⟨B, q * 35 + 5, none⟩) hBl5).trans hHeld.2.1
          have hcx6 := (hb6.cell (p := ⟨xb, 1, none⟩) hxl5).trans hHeld.2.2
          have hS6 := hS5.below hb6
          have hO6' := hO5.below hb6
          have hB6 := hB5.trans (hb6.mono hB5.size)
          have hx6 := (hb6.block xb hxl5).trans hx5
          refine hK.out _ _ (fun _ => ⟨hX6, hC6', hcx6⟩) (fun hHeld => ?_)
          clear hK K hHeld hS5 hO5 hB5 hx5 hb6
          (try simp only [List.getElem_toArray, List.getElem_cons_succ, List.getElem_cons_zero, Act.put, List.setIfInBounds_toArray, List.set_cons_zero, List.set_cons_succ])
          refine anyL_one (i := 18) (by kernel_rfl) rfl (fun K hK => ?_)
          rw [if_pos (by kernel_rfl)]
          obtain ⟨i0, z0, z1, z2, z3⟩ := term_info
          have htl5 : ts.toList.length = 5 := by simpa using hts.out
          refine wp_buildSlice 24 26 2 _ rfl (acs cl pa ca ++ ts.toList).toArray i0 _ (by kernel_rfl) z0 z1 (by rw [z2]; decide) (by rw [z2]; decide) (Eq.trans (congrArg (Instr.fill _ _) (show _ = [(0, Value.agg #[.int .i8 1, .int .i64 0, .string (bytesOf (atomOf cl)), .string (bytesOf []), .slice pa 0 ca]), (1, .agg ts)] by kernel_rfl)) (fill_two z2 _ _ _ _ _ _ htl5)) ?_
          have hA7 := (Below.refl W6.heap.size W6).alloc (Nat.le_refl _) (.cells (acs cl pa ca ++ ts.toList).toArray 26)
          have hZ7 : (W6.alloc (.cells (acs cl pa ca ++ ts.toList).toArray 26)).heap[W6.heap.size]? = some (.cells (acs cl pa ca ++ ts.toList).toArray 26 (0, 0)) := by
            show (W6.heap.push _)[W6.heap.size]? = _
            exact Array.getElem?_push_size
          have hX7 := hX6.below hA7
          have hBl6 : B < W6.heap.size := by obtain ⟨C, e, _⟩ := hS6.1; exact (Array.getElem?_eq_some_iff.1 e).1
          have hxl6 : xb < W6.heap.size := (Array.getElem?_eq_some_iff.1 hx6).1
          have hC7 := (hA7.cell (p := ⟨B, q * 35 + 5, none⟩) hBl6).trans hC6'
          have hcx7 := (hA7.cell (p := ⟨xb, 1, none⟩) hxl6).trans hcx6
          have hS7 := hS6.below hA7
          have hO7 := hO6'.below hA7
          have hB7 := hB6.trans (hA7.mono hB6.size)
          have hx7 := (hA7.block xb hxl6).trans hx6
          refine hK.out _ _ (fun _ => ⟨hX7, hC7, hcx7⟩) (fun hHeld => ?_)
          clear hK K hHeld hS6 hO6' hB6 hx6 hX6 hC6' hcx6
          (try simp only [List.getElem_toArray, List.getElem_cons_succ, List.getElem_cons_zero, Act.put, List.setIfInBounds_toArray, List.set_cons_zero, List.set_cons_succ])
          generalize W6.alloc (.cells (acs cl pa ca ++ ts.toList).toArray 26) = W7 at hX7 hZ7 hC7 hcx7 hS7 hO7 hB7 hx7 hA7 ⊢
          clear hA7
          generalize W6.heap.size = Z at hZ7 hBl6 hxl6 ⊢
          refine anyL_one (i := 19) (by kernel_rfl) rfl (fun K hK => ?_)
          rw [if_pos (by kernel_rfl)]
          have hOt := hO7.take hle5
          have hdl : (Dat.r ((row.getD 5 .o).rows.take h5)).rows.length = h5 := by show ((row.getD 5 .o).rows.take h5).length = h5; rw [List.length_take]; have := hn5'.out; omega
          obtain ⟨xs, ho, hlt, hgd⟩ := hOt
          rw [hdl] at ho
          have hat5 : ∀ x, (Value.slice p5 h5 c5).ownBlock = some x → lo ≤ x ∧ x < hi := fun x hx => (hO7.take hle5).at hx
          have hgq : B < g q := by
            obtain ⟨_, a2, _⟩ := hS7.2.2.2 q (by omega)
            exact a2
          have hhs : hi ≤ W7.heap.size := Nat.le_trans hhi5 hS7.2.2.1
          have hone : ∀ u, u ∈ (acs cl pa ca ++ ts.toList) → u.oneCell' = true := fun u hu => by
            rcases List.mem_append.1 hu with hu | hu
            · simp only [List.mem_cons, List.not_mem_nil, or_false] at hu
              rcases hu with rfl | rfl | rfl | rfl | rfl <;> rfl
            · obtain ⟨j, hj, rfl⟩ := List.getElem_of_mem hu
              have hj5 : j < trow.length := by rw [ht.l1]; show j < 5; omega
              exact dr_one (ht.dr j _ _ _ (List.getElem?_eq_getElem (show j < (lay 26).length by show j < 5; omega)) (List.getElem?_eq_getElem hj5) (List.getElem?_eq_getElem hj))
          refine wp_append_lies _ _ _ 24 rfl lo 26 i0 _ 5 72 (by kernel_rfl) z0 z1 z2 z3 (by decide) (by decide) (.slice p5 h5 c5) h5 xs rfl ho ⟨Z, 0, none⟩ 2 2 (acs cl pa ca ++ ts.toList) rfl (by rw [List.length_append, htl5]; rfl) (fun j u hu => by rw [Addr.add_mid, Nat.zero_add]; exact (Sx.cell_at hZ7 j).trans (by simpa using hu)) hone (by decide) (by unfold maxLen; omega) (by omega) (by have := hS7.2.2.1; omega) W7.heap.size rfl ?_
          intro g5 cap5 W8 hown8 hgrow hwhere hlt8
          have hX8 : BoxT w.heap.size ts W8 := (hgrow.block _ hX7.lt (fun e => by have := (hat5 _ e.symm).1; omega)).trans hX7
          have hB8 : Below w.heap.size w W8 := hB7.grown hgrow hB7.size (fun k hk => by have := (hat5 k hk).1; omega)
          have hBne : ∀ x, (Value.slice p5 h5 c5).ownBlock = some x → B ≠ x := fun x hx => by have := (hat5 x hx).1; omega
          have hBlt7 : B < W7.heap.size := by obtain ⟨C, e, _⟩ := hS7.1; exact (Array.getElem?_eq_some_iff.1 e).1
          have hR8 := hS7.1.of_block (hgrow.block _ hBlt7 (fun e => hBne _ e.symm rfl))
          have hC8 := hR8.cell (i := q * 35 + 5) (by omega)
          have hF8 := hR8.frozen (q * 35 + 5)
          rw [if_neg (show q * 35 + 5 ≠ q * 35 + 6 by omega), hv5'.out] at hC8
          have hxne : ∀ x, (Value.slice p5 h5 c5).ownBlock = some x → xb ≠ x := fun x hx e => by
            have h1 := (hat5 x hx).2
            have h2 := hgk
            omega
          have hx8 := (hgrow.block xb (Array.getElem?_eq_some_iff.1 hx7).1 (fun e => hxne _ e.symm rfl)).trans hx7
          have hcx8 := Sx.cell_at hx8 1
          refine hK.out _ _ (fun _ => ⟨hX8, hC8, hcx8⟩) (fun hHeld => ?_)
          replace hHeld := hHeld (noB_spec (by kernel_rfl))
          clear hK K
          (try simp only [List.getElem_toArray, List.getElem_cons_succ, List.getElem_cons_zero, Act.put, List.setIfInBounds_toArray, List.set_cons_zero, List.set_cons_succ])
          have hg5B : g5 ≠ B := by
            rcases hwhere with e | e
            · exact Ne.symm (hBne _ e)
            · rw [e]; exact Nat.ne_of_gt hBlt7
          have hg5w : w.heap.size ≤ g5 := by
            rcases hwhere with e | e
            · have := (hat5 _ e).1; omega
            · have := hB7.size; omega

          refine anyL_addr (i := 20) (v := ?_) rfl (by kernel_rfl) (by kernel_rfl) (by kernel_rfl) (fun _ _ _ h => h) (by kernel_rfl) (Or.inl ⟨by rfl, ?_⟩) (by assumption) ?_
          rotate_left 1
          (intro W hSw; go_simp; try with_reducible rfl)
          (try simp only [List.getElem_toArray, List.getElem_cons_succ, List.getElem_cons_zero, Act.put, List.setIfInBounds_toArray, List.set_cons_zero, List.set_cons_succ])
          refine anyL_addr (i := 21) (v := ?_) rfl (by kernel_rfl) (by kernel_rfl) (by kernel_rfl) (fun _ _ _ h => h) (by kernel_rfl) (Or.inl ⟨by rfl, ?_⟩) (by assumption) ?_
          rotate_left 1
          (intro W hSw; go_simp; try with_reducible rfl)
          (try simp only [List.getElem_toArray, List.getElem_cons_succ, List.getElem_cons_zero, Act.put, List.setIfInBounds_toArray, List.set_cons_zero, List.set_cons_succ])
          refine anyL_one (i := 22) (by kernel_rfl) rfl (fun K hK => ?_)
          go_simp
          have hR9 := hR8.set (q * 35 + 5) (.slice (some ⟨g5, 0, none⟩) (h5 + 2) cap5)
          obtain ⟨C8, eC8, _⟩ := hR8
          obtain ⟨_, s1, s2, _⟩ := Sx.setCell_at (o := q * 35 + 5) eC8 (.slice (some ⟨g5, 0, none⟩) (h5 + 2) cap5)
          have hO9 := own_other hown8 (s2 g5 hg5B)
          have hB9 := hB8.setCell (show w.heap.size ≤ (⟨B, q * 35 + 5, none⟩ : Addr).block by show w.heap.size ≤ B; omega) (.slice (some ⟨g5, 0, none⟩) (h5 + 2) cap5)
          have hx9 := (s2 xb hxbB).trans hx8
          have hk9 : ∀ b, b ≠ B → _ := s2
          generalize W8.setCell ⟨B, q * 35 + 5, none⟩ (.slice (some ⟨g5, 0, none⟩) (h5 + 2) cap5) = W9 at hR9 s1 s2 hO9 hB9 hx9 hk9 ⊢
          refine hK.out _ _ (noL_no 22 rfl (by kernel_rfl)) (fun hHeld => ?_)
          clear hK K hHeld
          (try simp only [List.getElem_toArray, List.getElem_cons_succ, List.getElem_cons_zero, Act.put])
          refine anyL_done (by kernel_rfl) ?_ _
          have hd4 : (row.getD 5 .o).rows.length = n5 := hn5'.out
          have hxl : xs.length = h5 * 5 := ho.1
          have hrow7 : (R.set q (row.set 6 (.r ((row.getD 6 .o).rows.take m6))))[q]? = some (row.set 6 (.r ((row.getD 6 .o).rows.take m6))) := hr4
          have hlt' : ((row.getD 5 .o).rows.take h5 ++ [arow cl, trow]).length = h5 + 2 := by rw [List.length_append, List.length_take, hd4, Nat.min_eq_left hle5]; rfl
          have hKeep : Keeps W7 W9 B ((fun x => if x = q * 35 + 6 then Value.slice (some ⟨g6, 0, none⟩) m6 c6 else f x) (q * 35 + 5)) := fun b hb hbB hbx => by
            have hbx : ∀ x, (Value.slice p5 h5 c5).ownBlock = some x → b ≠ x := fun x hx => hbx x (by
              show (if q * 35 + 5 = q * 35 + 6 then Value.slice (some ⟨g6, 0, none⟩) m6 c6 else f (q * 35 + 5)).ownBlock = some x
              rw [if_neg (by omega), hv5'.out]
              cases p5 with
              | none => cases hx
              | some a => exact hx)
            have hb8 : W8.heap[b]? = W7.heap[b]? := hgrow.block _ hb (fun e => hbx b e.symm rfl)
            exact (s2 b hbB).trans hb8
          have key := push_fin (s := w.heap.size) (by omega) (w := W7) (w' := W9) (trs := (row.getD 5 .o).rows.take h5 ++ [arow cl, trow]) (xs := xs ++ (acs cl pa ca ++ ts.toList)) (g5 := g5) (c5 := cap5) (lo := lo) hS7 hk (le_memNot hM (by omega)) hrow7 (by rw [hlt']; exact hO9) hg5B hg5w (fun i r hi => ?_) hKeep (by rw [hlt']; exact hR9)
          · rw [hlt'] at key
            have hcell2 := hR9.cell (i := q * 35 + 2) (by omega)
            have hfz2 := hR9.frozen (q * 35 + 2)
            have hcell7 := hR9.cell (i := q * 35 + 7) (by omega)
            have hfz7 := hR9.frozen (q * 35 + 7)
            have hcx9 := Sx.cell_at hx9 0
            clear hR9 hKeep hO9 s2 hk9 hx9 hx8 hcx8
            go_wp2
            go_ret3
            have hqR : q < R.length := (List.getElem?_eq_some_iff.1 hr).1
            have k1 := key.set (i := q) (j := 2) (Nat.lt_succ_self q) (row := (row.set 6 (.r ((row.getD 6 .o).rows.take m6))).set 5 (.r ((row.getD 5 .o).rows.take h5 ++ [arow cl, trow]))) (List.getElem?_set_self (by rw [List.length_set]; exact hqR)) (kd := .i .i64) rfl (d := .i aT) (v := .int .i64 aT) (.i .i64 (.i aT))
            have k2 := k1.set (i := q) (j := 7) (Nat.lt_succ_self q) (row := ((row.set 6 (.r ((row.getD 6 .o).rows.take m6))).set 5 (.r ((row.getD 5 .o).rows.take h5 ++ [arow cl, trow]))).set 2 (.i aT)) (List.getElem?_set_self (by simp only [List.length_set]; exact hqR)) (kd := .i .i64) rfl (d := .i (-1)) (v := .int .i64 (-1)) (.i .i64 (.i (-1)))
            have hun : unRow row cl trow = (((row.set 6 (.r ((row.getD 6 .o).rows.take m6))).set 5 (.r ((row.getD 5 .o).rows.take h5 ++ [arow cl, trow]))).set 2 (.i aT)).set 7 (.i (-1)) := by
              unfold unRow
              rw [hn6'.out, Nat.add_sub_cancel, hhi'.out, hat'.out, hn5'.out, hmin, Int.toNat_natCast]
            simp only [List.set_set] at k2
            rw [← hun] at k2
            have hBB : ∀ o : Nat, w.heap.size ≤ (⟨B, o, none⟩ : Addr).block := fun o => by show w.heap.size ≤ B; omega
            exact ⟨(hB9.setCell (hBB _) _).setCell (hBB _) _, .inr ⟨q, row, B, _, by rw [hdn, hde'.out, if_neg (fun e => absurd e.2 (by omega))], hr, by omega, .inr ⟨hkn'.out, rfl, k2⟩⟩⟩
          · by_cases hin : i < h5
            · rw [List.getElem?_append_left (by rw [List.length_take, hd4, Nat.min_eq_left hle5]; exact hin)] at hi
              have := hgd i r hi
              rw [show (lay 26).length = 5 by rfl] at this
              have hec : ((xs ++ (acs cl pa ca ++ ts.toList)).drop (i * 5)).take 5 = (xs.drop (i * 5)).take 5 := by
                rw [List.drop_append_of_le_length (by omega), List.take_append_of_le_length (by rw [List.length_drop]; omega)]
              rw [hec]
              exact this
            · have hlt2 := (List.getElem?_eq_some_iff.1 hi).1
              rw [hlt'] at hlt2
              rw [List.getElem?_append_right (by rw [List.length_take, hd4, Nat.min_eq_left hle5]; omega), List.length_take, hd4, Nat.min_eq_left hle5] at hi
              have hi2 : i = h5 ∨ i = h5 + 1 := by omega
              rcases hi2 with rfl | rfl
              · rw [Nat.sub_self] at hi
                cases hi
                rw [List.drop_append_of_le_length (by omega), List.drop_of_length_le (by omega), List.nil_append, List.take_append_of_le_length (by simp), List.take_of_length_le (by simp)]
                exact arow_good M cl pa ca
              · rw [Nat.add_sub_cancel_left] at hi
                cases hi
                rw [show (h5 + 1) * 5 = xs.length + 5 by omega]
                rw [List.drop_append, List.drop_of_length_le (by omega), List.nil_append, Nat.add_sub_cancel_left, List.drop_append, List.drop_of_length_le (by simp), List.nil_append, show 5 - (acs cl pa ca).length = 0 by rfl, List.drop_zero, List.take_of_length_le (by omega)]
                exact ht
      · go_wp2
        rw [Exit.noGoto_ret]
        go_ret3
        exact ⟨hB2, .inr ⟨q, row, B, f, by rw [hdn, hde'.out, if_neg (fun e => hk1 e.1)], hr, by omega, .inl ⟨by rw [hkn'.out]; exact hk1, rfl, hSt.sin (by omega) (le_memNot hM (by omega)) hk (Nat.le_refl _)⟩⟩⟩
end Go.Proofs.YtgjfdbbghefdbaaGreatDoor.Lt
