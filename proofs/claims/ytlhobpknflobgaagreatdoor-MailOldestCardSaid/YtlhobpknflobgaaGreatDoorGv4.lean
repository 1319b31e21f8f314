/-
  errors.Join of two error numbers; guard.none. Conditions: as said.
-/
import Derived.Test.YtlhobpknflobgaaGreatDoorGv3
import Derived.Test.YtlhobpknflobgaaGreatDoorGv1
namespace Go.Proofs.YtlhobpknflobgaaGreatDoor
open Go.RowKit

theorem mk2 (W : World) : (Instr.makeSlice 169 (.int .i64 0) (.int .i64 2)).run Tryz.prog W = .ok (.slice (some ⟨W.heap.size, 0, none⟩) 0 2) (W.alloc (.cells #[.nilIface, .nilIface] 85)) := by kernel_rfl
theorem infoErr : (Tryz.prog.info? 85).map (fun i => (i.zero, i.size, i.bytes)) = some (some .nilIface, 1, 16) := by kernel_rfl
/-- An error number, as an error. -/
def erV (n : Int) : Value := .iface 32 (.int .i64 n)
/-- Two error numbers, joined. -/
def JoinAt (w : World) (v : Value) (a b : Int) : Prop := ∃ bj g c, v = .iface 195 (.pointer (some ⟨bj, 0, none⟩)) ∧ w.cell? ⟨bj, 0, none⟩ = some (.slice (some ⟨g, 0, none⟩) 2 c) ∧ w.cell? ⟨g, 0, none⟩ = some (.iface 32 (.int .i64 a)) ∧ w.cell? ⟨g, 1, none⟩ = some (.iface 32 (.int .i64 b))
theorem JoinAt.under {w w' : World} {v : Value} {a b : Int} (h : JoinAt w v a b) (hb : Below w.heap.size w w') : JoinAt w' v a b := by
  obtain ⟨bj, g, c, h1, h2, h3, h4⟩ := h
  exact ⟨bj, g, c, h1, (hb.cell (p := ⟨bj, 0, none⟩) (cell_block h2)).trans h2, (hb.cell (p := ⟨g, 0, none⟩) (cell_block h3)).trans h3, (hb.cell (p := ⟨g, 1, none⟩) (cell_block h4)).trans h4⟩
def JnSays (a b : Int) (w : World) (e : Ending) (w' : World) : Prop := ∃ v, e = .returned v ∧ JoinAt w' v a b ∧ Below w.heap.size w w'
def jnL (a b : Int) (k : Int) : List Value := if k = 0 then [] else if k = 1 then [.iface 32 (.int .i64 a)] else [.iface 32 (.int .i64 a), .iface 32 (.int .i64 b)]
/-- What the second loop's round knows. -/
def JnRel (a b : Int) (w : World) (i : Value) (wr : World) : Prop := ∃ (k : Nat) (v : Value), k ≤ 2 ∧ i = .int .i64 k ∧ wr.ownsRow w.heap.size 85 1 v k (jnL a b k) ∧ wr.heap[w.heap.size + 1]? = some (.cells #[v] 197 (0, 0)) ∧ v.ownBlock ≠ some (w.heap.size + 1) ∧ Below w.heap.size w wr

set_option maxHeartbeats 8000000 in
set_option maxRecDepth 100000 in
theorem join_any {w : World} {g c : Nat} {a b : Int} (h0 : w.cell? ⟨g, 0, none⟩ = some (.iface 32 (.int .i64 a))) (h1 : w.cell? ⟨g, 1, none⟩ = some (.iface 32 (.int .i64 b))) :
    Calls Tryz.prog 151 #[.slice (some ⟨g, 0, none⟩) 2 c] w (JnSays a b w) := by
  have hmk := mk2
  obtain ⟨i0, hi, hi0, hi1, hi2⟩ := info_parts infoErr
  obtain ⟨n1, n2, hb2, hz2⟩ := two_new w (.cells #[.nilIface, .nilIface] 85) (.cells #[.slice (some ⟨w.heap.size, 0, none⟩) 0 2] 197)
  have hown0 : ((w.alloc (.cells #[.nilIface, .nilIface] 85)).alloc (.cells #[.slice (some ⟨w.heap.size, 0, none⟩) 0 2] 197)).ownsRow w.heap.size 85 1 (.slice (some ⟨w.heap.size, 0, none⟩) 0 2) 0 [] := ⟨rfl, .inr ⟨_, 2, _, rfl, Nat.le_refl _, n1, by omega, by unfold maxLen; omega, rfl, rfl⟩⟩
  have HS0 : Hid (JnRel a b w (.int .i64 0) ((w.alloc (.cells #[.nilIface, .nilIface] 85)).alloc (.cells #[.slice (some ⟨w.heap.size, 0, none⟩) 0 2] 197))) := Lib.hid ⟨0, _, by omega, rfl, hown0, n2, by simp [Value.ownBlock], hb2⟩
  clear n1 n2 hb2 hz2 hown0
  go_enter Tryz.func151, Tryz.ntmps151
  go_wp2
  go_loopw [3, 11] (fun n i wr => ∃ k : Int, (k = 0 ∨ k = 1 ∨ k = 2) ∧ i = .int .i64 k ∧ n = .int .i64 k ∧ w = wr) (fun _ i _ => 2 - (intOf i).toNat)
  case atStart => exact ⟨0, by omega, rfl, rfl, rfl⟩
  case round =>
    obtain ⟨k, hk, rfl, rfl, rfl⟩ := hrel
    rcases hk with rfl | rfl | rfl
    · go_wp2
      go_roundw
      case rel => exact ⟨1, by omega, rfl, rfl, trivial⟩
      case measure => simp [intOf]
    · go_wp2
      go_roundw
      case rel => exact ⟨2, by omega, rfl, rfl, trivial⟩
      case measure => simp [intOf]
    · go_wp2
      go_loopw [28] (fun i wr => JnRel a b w i wr) (fun i _ => 2 - (intOf i).toNat)
      case atStart => exact HS0.out
      case round =>
        obtain ⟨k, v, hk, rfl, hown, hj, hne, hbr⟩ := hrel
        obtain ⟨q, cp, rfl⟩ := row_shape hown
        have hj0 : wr.cell? ⟨w.heap.size + 1, 0, none⟩ = some (.slice q k cp) := (arr_cell hj).trans rfl
        have hlt := (Array.getElem?_eq_some_iff.1 hj).1
        have hk3 : k = 0 ∨ k = 1 ∨ k = 2 := by omega
        have e0 := (hbr.cell (p := ⟨g, 0, none⟩) (cell_block h0)).trans h0
        have e1 := (hbr.cell (p := ⟨g, 1, none⟩) (cell_block h1)).trans h1
        have HOWN := Lib.hid hown
        have HJ := Lib.hid hj
        have HB := Lib.hid hbr
        clear hown hj
        rcases hk3 with rfl | rfl | rfl
        · have hb3 := alloc_below wr (.cells #[.iface 32 (.int .i64 a)] 85)
          have hown3 := row_under HOWN.out hb3
          have hj3 := (hb3.block _ hlt).trans HJ.out
          have HJ3 := Lib.hid hj3
          have hc3 : (wr.alloc (.cells #[.iface 32 (.int .i64 a)] 85)).cell? ⟨wr.heap.size, 0, none⟩ = some (.iface 32 (.int .i64 a)) := box_cell wr _ _
          have hs3 : w.heap.size ≤ (wr.alloc (.cells #[.iface 32 (.int .i64 a)] 85)).heap.size := by have := hbr.size; simp; omega
          have hlt3 : w.heap.size + 1 < (wr.alloc (.cells #[.iface 32 (.int .i64 a)] 85)).heap.size := by simp; omega
          clear hj3
          go_wp2_with (at_builtin; refine wpList_append_own2 rfl (.tmp 38) (.tmp 40) 169 rfl w.heap.size 85 i0 _ 1 16 Tryz.underlying169 hi hi0 hi1 hi2 rfl (by decide) _ 0 (jnL a b 0) rfl hown3 ⟨wr.heap.size, 0, none⟩ 1 1 [.iface 32 (.int .i64 a)] rfl rfl (fun j u hu => by match j, hu with | 0, hu => cases hu; exact hc3) (fun u hu => by simp at hu; subst hu; rfl) (by unfold maxLen; omega) (by omega) hs3 ?_; intro v8 w8 hown8 hgrow8 hnil8; obtain ⟨q8, c8, hv8⟩ := row_shape hown8; subst hv8; have hj8 := (grown_block hgrow8 hlt3 hne).trans HJ3.out; have c84 : w8.cell? ⟨w.heap.size + 1, 0, none⟩ = some (.slice q 0 cp) := (arr_cell hj8).trans rfl; have f84 : w8.frozen? ⟨w.heap.size + 1, 0, none⟩ = false := arr_free hj8)
          have hj9 := arr_set (i := 0) (u := .slice q8 1 c8) hj8
          have hne8 : (Value.slice q8 1 c8).ownBlock ≠ some (w.heap.size + 1) := fun e => by
            rcases hnil8 with h | h
            · exact hne (h ▸ e)
            · have := h _ e; omega
          have hown9 : (w8.setCell ⟨w.heap.size + 1, 0, none⟩ (.slice q8 1 c8)).ownsRow w.heap.size 85 1 (.slice q8 1 c8) 1 (jnL a b 1) := by
            obtain ⟨r1, r2⟩ := hown8
            refine ⟨r1, ?_⟩
            rcases r2 with r2 | ⟨g', cap, cur, r3, r4, r5, r6⟩
            · exact .inl r2
            · refine .inr ⟨g', cap, cur, r3, r4, ?_, r6⟩
              rw [Below.heap_setCell _ _ _ _ (show g' ≠ w.heap.size + 1 from fun e => hne8 (by rw [r3]; simp [Value.ownBlock, e]))]
              exact r5
          have hB8 : Below w.heap.size w w8 := (HB.out.trans (hb3.mono HB.out.size)).grown hgrow8 hs3 (row_base hown3)
          have hB9 : Below w.heap.size w (w8.setCell ⟨w.heap.size + 1, 0, none⟩ (.slice q8 1 c8)) := hB8.setCell (p := ⟨w.heap.size + 1, 0, none⟩) (by simp) _
          go_roundw
          case rel => exact ⟨1, _, by omega, rfl, hown9, hj9, hne8, hB9⟩
          case measure => simp [intOf]
        · have hb3 := alloc_below wr (.cells #[.iface 32 (.int .i64 b)] 85)
          have hown3 := row_under HOWN.out hb3
          have hj3 := (hb3.block _ hlt).trans HJ.out
          have HJ3 := Lib.hid hj3
          have hc3 : (wr.alloc (.cells #[.iface 32 (.int .i64 b)] 85)).cell? ⟨wr.heap.size, 0, none⟩ = some (.iface 32 (.int .i64 b)) := box_cell wr _ _
          have hs3 : w.heap.size ≤ (wr.alloc (.cells #[.iface 32 (.int .i64 b)] 85)).heap.size := by have := hbr.size; simp; omega
          have hlt3 : w.heap.size + 1 < (wr.alloc (.cells #[.iface 32 (.int .i64 b)] 85)).heap.size := by simp; omega
          clear hj3
          go_wp2_with (at_builtin; refine wpList_append_own2 rfl (.tmp 38) (.tmp 40) 169 rfl w.heap.size 85 i0 _ 1 16 Tryz.underlying169 hi hi0 hi1 hi2 rfl (by decide) _ 1 (jnL a b 1) rfl hown3 ⟨wr.heap.size, 0, none⟩ 1 1 [.iface 32 (.int .i64 b)] rfl rfl (fun j u hu => by match j, hu with | 0, hu => cases hu; exact hc3) (fun u hu => by simp at hu; subst hu; rfl) (by unfold maxLen; omega) (by omega) hs3 ?_; intro v8 w8 hown8 hgrow8 hnil8; obtain ⟨q8, c8, hv8⟩ := row_shape hown8; subst hv8; have hj8 := (grown_block hgrow8 hlt3 hne).trans HJ3.out; have c84 : w8.cell? ⟨w.heap.size + 1, 0, none⟩ = some (.slice q 1 cp) := (arr_cell hj8).trans rfl; have f84 : w8.frozen? ⟨w.heap.size + 1, 0, none⟩ = false := arr_free hj8)
          have hj9 := arr_set (i := 0) (u := .slice q8 2 c8) hj8
          have hne8 : (Value.slice q8 2 c8).ownBlock ≠ some (w.heap.size + 1) := fun e => by
            rcases hnil8 with h | h
            · exact hne (h ▸ e)
            · have := h _ e; omega
          have hown9 : (w8.setCell ⟨w.heap.size + 1, 0, none⟩ (.slice q8 2 c8)).ownsRow w.heap.size 85 1 (.slice q8 2 c8) 2 (jnL a b 2) := by
            obtain ⟨r1, r2⟩ := hown8
            refine ⟨r1, ?_⟩
            rcases r2 with r2 | ⟨g', cap, cur, r3, r4, r5, r6⟩
            · exact .inl r2
            · refine .inr ⟨g', cap, cur, r3, r4, ?_, r6⟩
              rw [Below.heap_setCell _ _ _ _ (show g' ≠ w.heap.size + 1 from fun e => hne8 (by rw [r3]; simp [Value.ownBlock, e]))]
              exact r5
          have hB8 : Below w.heap.size w w8 := (HB.out.trans (hb3.mono HB.out.size)).grown hgrow8 hs3 (row_base hown3)
          have hB9 : Below w.heap.size w (w8.setCell ⟨w.heap.size + 1, 0, none⟩ (.slice q8 2 c8)) := hB8.setCell (p := ⟨w.heap.size + 1, 0, none⟩) (by simp) _
          go_roundw
          case rel => exact ⟨2, _, by omega, rfl, hown9, hj9, hne8, hB9⟩
          case measure => simp [intOf]
        · go_wp2
          go_ret
          refine ⟨_, rfl, ?_, HB.out⟩
          obtain ⟨r1, r2⟩ := HOWN.out
          rcases r2 with ⟨_, r2⟩ | ⟨g', cap, cur, r3, r4, r5, r6, r7, r8, r9⟩
          · cases r2
          · cases r3
            have hc : ∀ j, j < 2 → wr.cell? ⟨g', j, none⟩ = (jnL a b 2)[j]? := fun j hj => by
              have h2 : (cur.toList.take 2)[j]? = (jnL a b 2)[j]? := congrArg (·[j]?) r9
              rw [List.getElem?_take_of_lt hj] at h2
              rw [arr_cell r5, ← h2]
              simp
            exact ⟨w.heap.size + 1, g', cp, rfl, hj0, hc 0 (by omega), hc 1 (by omega)⟩
end Go.Proofs.YtlhobpknflobgaaGreatDoor
