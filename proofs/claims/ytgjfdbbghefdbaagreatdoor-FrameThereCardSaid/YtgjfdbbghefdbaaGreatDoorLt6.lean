/-
  frame.stack over data. Conditions: as said.
-/
import Derived.Test.YtgjfdbbghefdbaaGreatDoorLt5
import Derived.OwnWalk
namespace Go.Proofs.YtgjfdbbghefdbaaGreatDoor.Lt
open Go.RowKit Sx Dd Fa Fa.C1
set_option maxRecDepth 100000
/-- A frame's seven rows are short. -/
def Short (row : List Dat) : Prop := (row.getD 3 .o).rows.length ≤ 1200 ∧ (row.getD 4 .o).rows.length ≤ 1200 ∧ (row.getD 5 .o).rows.length ≤ 1200 ∧ (row.getD 6 .o).rows.length ≤ 1200 ∧ (row.getD 28 .o).rows.length ≤ 1200 ∧ (row.getD 33 .o).rows.length ≤ 1200 ∧ (row.getD 34 .o).rows.length ≤ 1200
theorem own_short {M : Mem} {w : World} {row : List Dat} {cs : List Value} (hM : MemOk M w) (h : Dd.Good lay M (lay 43) row cs) (hs : Short row) :
    Calls Tryz.prog 26 #[.agg cs.toArray] w fun e w' => ∃ cs' : List Value, e = .returned (.agg cs'.toArray) ∧ FrRow w' M w.heap.size w'.heap.size row cs' ∧ Below w.heap.size w w' := by
  obtain ⟨h1, h2, h3, h4, h5, h6, h7⟩ := hs
  exact own_in hM h h1 h2 h3 h4 h5 h6 h7
theorem made_row {w w' : World} {n : Nat} {xs : List Value} (h : w'.ownsRow w.heap.size 43 35 (.slice (some ⟨w.heap.size, 0, none⟩) n n) n xs) : ∃ f, w'.rowIs w.heap.size 43 (n * 35) f := by
  rcases h.2 with ⟨e, _⟩ | ⟨g, cap, cur, e, _, h2, _, _, h3, _⟩
  · cases e
  · cases e
    exact ⟨fun i => cur.getD i undef, cur, h2, h3, fun i hi => by simp [Array.getD_eq_getD_getElem?, h3, hi]⟩
theorem cs_one {M : Mem} {w : World} {lo hi : Nat} {row : List Dat} {cs : List Value} (h : FrRow w M lo hi row cs) : ∀ v, v ∈ cs → v.oneCell' = true := fun v hv => by
  obtain ⟨j, hj, rfl⟩ := List.getElem_of_mem hv
  have e : cs[j] = cs.getD j undef := by simp [List.getD_eq_getElem?_getD, hj]
  have hj35 : j < (lay 43).length := by have := h.l2; show j < 35; omega
  by_cases hn : j ≠ 3 ∧ j ≠ 4 ∧ j ≠ 5 ∧ j ≠ 6 ∧ j ≠ 28 ∧ j ≠ 33 ∧ j ≠ 34
  · rw [e]
    exact dr_one (h.same j _ hn (List.getElem?_eq_getElem hj35))
  · obtain ⟨a1, a2, a3, a4, a5, a6, _, _, _, _, _, _, _, h1, h2, h3, h4, h5, h6, h7⟩ := h.own
    rw [e]
    have hc : j = 3 ∨ j = 4 ∨ j = 5 ∨ j = 6 ∨ j = 28 ∨ j = 33 ∨ j = 34 := by omega
    rcases hc with rfl | rfl | rfl | rfl | rfl | rfl | rfl
    · obtain ⟨r, s, e⟩ := h1.sl; rw [e]; rfl
    · obtain ⟨r, s, e⟩ := h2.sl; rw [e]; rfl
    · obtain ⟨r, s, e⟩ := h3.sl; rw [e]; rfl
    · obtain ⟨r, s, e⟩ := h4.sl; rw [e]; rfl
    · obtain ⟨r, s, e⟩ := h5.sl; rw [e]; rfl
    · obtain ⟨r, s, e⟩ := h6.sl; rw [e]; rfl
    · obtain ⟨r, s, e⟩ := h7.sl; rw [e]; rfl
theorem there_row {w : World} {b t N o m : Nat} {f : Nat → Value} (h : w.rowIs b t N f) (ho : o + m ≤ N) : w.there b o m := fun j hj => by
  refine ⟨by rw [h.cell (by omega)]; rfl, ?_⟩
  obtain ⟨c, e, _⟩ := h
  simp [World.frozen?, e]
theorem row_below {w w' : World} {b t N : Nat} {f : Nat → Value} (h : w.rowIs b t N f) (hb : Below w.heap.size w w') : w'.rowIs b t N f := by
  obtain ⟨C, e1, e2, e3⟩ := h
  exact ⟨C, (hb.block b (Array.getElem?_eq_some_iff.1 e1).1).trans e1, e2, e3⟩
set_option maxHeartbeats 2000000 in
theorem stack_in {M : Mem} {w : World} {d : Dat} {p : Option Addr} {c : Nat} (hM : MemOk M w) (h : DR lay M (.sl 43) d (.slice p d.rows.length c)) (hn : d.rows.length ≤ 120) (hs : ∀ row, row ∈ d.rows → Short row) :
    Calls Tryz.prog 18 #[.slice p d.rows.length c] w fun e w' => ∃ B f g, e = .returned (.slice (some ⟨B, 0, none⟩) d.rows.length d.rows.length) ∧ w.heap.size ≤ B ∧ StRow w' M B d.rows.length d.rows.length d.rows f g ∧ Below w.heap.size w w' := by
  obtain ⟨i0, e0⟩ : ∃ i0, Tryz.prog.info? 43 = some i0 := Option.isSome_iff_exists.1 (by kernel_rfl)
  have e1 : (Tryz.prog.info? 43).map (fun i => (i.zero.isSome, i.size, decide (i.bytes ≤ 1000))) = some (true, 35, true) := by kernel_rfl
  rw [e0] at e1
  simp only [Option.map_some, Option.some.injEq, Prod.mk.injEq, decide_eq_true_eq] at e1
  obtain ⟨e1, e2, e3⟩ := e1
  obtain ⟨z, e1⟩ := Option.isSome_iff_exists.1 e1
  have hby : i0.bytes * d.rows.length ≤ 281474976710656 := Nat.le_trans (Nat.mul_le_mul e3 hn) (by decide)
  obtain ⟨n, hN⟩ : ∃ n, d.rows.length = n := ⟨_, rfl⟩
  have hrow : ∀ k, k < n → ∃ row, d.rows[k]? = some row ∧ Short row := fun k hk => by
    have hk' : k < d.rows.length := by omega
    exact ⟨_, List.getElem?_eq_getElem hk', hs _ (List.getElem_mem _)⟩
  generalize hR : d.rows = R at *
  have hRR := Lib.hid hR
  have HH := Lib.hid h
  have HN : n ≤ 120 := by omega
  rw [hN] at hby HH ⊢
  clear h hs hn hN hR
  go_enter Tryz.func18, Tryz.ntmps18
  go_wp2_with (refine wpList_make_full _ rfl _ _ _ rfl w.heap.size 43 i0 z 35 (by kernel_rfl) e0 e1 e2 _ _ _ _ n rfl rfl rfl rfl hby (by unfold maxLen; omega) (Nat.le_refl _) ?_; intro W0 hown hgrow; obtain ⟨f0, hf0⟩ := made_row hown; have hB0 : Below w.heap.size w W0 := (Below.refl _ w).grown hgrow (Nat.le_refl _) (fun k hk => by cases hk); clear hown hgrow)
  have hsz0 : w.heap.size < W0.heap.size := by
    obtain ⟨C, e, _⟩ := hf0
    exact (Array.getElem?_eq_some_iff.1 e).1
  have hM0 : MemOk M W0 := memOk_below hM hB0
  go_loopw [10] (fun i wr => ∃ (k : Nat) (f : Nat → Value) (g : Nat → Nat), k ≤ n ∧ i = .int .i64 k ∧ StRow wr M w.heap.size n k R f g ∧ w.heap.size < g k ∧ Below w.heap.size w wr ∧ MemOk M wr) (fun i _ => n - (intOf i).toNat)
  case atStart => exact ⟨0, f0, fun _ => W0.heap.size, Nat.zero_le _, rfl, ⟨hf0, hsz0, Nat.le_refl _, fun i hi => absurd hi (Nat.not_lt_zero _)⟩, hsz0, hB0, hM0⟩
  case round =>
    obtain ⟨k, f, g, hk, rfl, hSt, hgk, hBr, hMr⟩ := hrel
    by_cases hlt : k < n
    · obtain ⟨row, hr, hsh⟩ := hrow k hlt
      obtain ⟨b, o, cs, rfl, hcs0, hgd⟩ := row_range hMr HH.out (show d.rows[k]? = some row by rw [hRR.out]; exact hr)
      have hcs : wr.rangeAt b (o + k * 35) cs := hcs0
      have hC := own_short hMr hgd hsh
      have hsz : (Tryz.prog.info? 43).map (·.size) = some cs.length := by rw [hgd.l2]; kernel_rfl
      have hthere : ∀ W' : World, Below wr.heap.size wr W' → W'.there w.heap.size (k * 35) 35 := fun W' hb => there_row (row_below hSt.1 hb) (by omega)
      clear hcs0
      go_wp2_with (first
        | (refine wpList_load_mid rfl 43 _ rfl b (o + k * 35) rfl cs _ hcs Tryz.underlying43 rfl hsz ?_)
        | (go_at_call 26; refine hC.mono ?_; rintro e W' ⟨cs', rfl, hF, hb⟩; have hth := hthere W' hb; have hl2 := hF.l2; have hsz' : (Tryz.prog.info? 43).map (·.size) = some cs'.toArray.size := (by rw [List.size_toArray, hl2]; kernel_rfl); have hone := all_oneCell_toArray (cs_one hF))
        | (refine wpList_store_mid rfl 43 _ _ rfl w.heap.size (k * 35) cs'.toArray (by kernel_rfl) (by kernel_rfl) (by simpa [hl2] using hth) hsz' hone ?_; clear hth hsz' hone))
      have hW' : Below w.heap.size w (W'.setCells w.heap.size (k * 35) cs') := below_setCells (Nat.le_refl _) cs' (k * 35) W' (hBr.trans (hb.mono hBr.size))
      go_roundw
      case rel => exact ⟨k + 1, _, _, hlt, by go_num, StRow.more hSt hgk hb hr hF, (by rw [if_neg (by omega)]; exact Nat.lt_of_lt_of_le hgk (Nat.le_trans hSt.2.2.1 hb.size)), hW', memOk_below hM hW'⟩
      case measure => simp [intOf]; omega
    · obtain rfl : k = n := by omega
      go_wp2
      go_ret
      exact ⟨_, f, g, rfl, Nat.le_refl _, hSt, hBr⟩
end Go.Proofs.YtgjfdbbghefdbaaGreatDoor.Lt
