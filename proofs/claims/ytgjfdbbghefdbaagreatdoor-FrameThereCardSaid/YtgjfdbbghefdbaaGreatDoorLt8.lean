/-
  frame.Push over data. Conditions: as said. (NOT BUILT YET)
-/
import Derived.Test.YtgjfdbbghefdbaaGreatDoorLt7
import Derived.Great.BuildSlice
namespace Go.Proofs.YtgjfdbbghefdbaaGreatDoor.Lt
open Go.RowKit Sx Dd Fa Fa.C1
set_option maxRecDepth 100000
theorem fill_lit (z : Array Value) (F : Nat → Value) : Instr.fill (fun i => some (i * 35, 35)) ((Array.range (1 * 35)).map (z[· % z.size]!)) [(0, .agg ((List.range 35).map F).toArray)] = some ((List.range 35).map F).toArray := by
  kernel_rfl
theorem fill_one {ie : TypeInfo} (hs : ie.size = 35) (z : Value) {cs : List Value} (h : cs.length = 35) : Instr.fill (fun i => some (i * ie.size, ie.size)) ((Array.range (1 * ie.size)).map (z.cells[· % z.cells.size]!)) [(0, .agg cs.toArray)] = some cs.toArray := by
  rw [hs, spread cs h]
  exact fill_lit _ _
theorem StRow.owns {w : World} {M : Mem} {B n k lo : Nat} {rows : List (List Dat)} {f : Nat → Value} {g : Nat → Nat} (h : StRow w M B n k rows f g) (hlo : lo ≤ B) (hn : n ≤ maxLen) : ∃ xs, w.ownsRow lo 43 35 (.slice (some ⟨B, 0, none⟩) n n) n xs ∧ ∀ i, i < n * 35 → xs[i]? = some (f i) := by
  obtain ⟨⟨C, e1, e2, e3⟩, _⟩ := h
  refine ⟨C.toList, ⟨by simp [e2], .inr ⟨B, n, C, rfl, hlo, e1, Nat.le_refl _, hn, e2, ?_⟩⟩, fun i hi => ?_⟩
  · rw [List.take_of_length_le (by simp [e2])]
  · rw [Array.getElem?_toList]
    exact e3 i hi
theorem OwnSl.grown {w w' : World} {M : Mem} {lo hi T b : Nat} {d : Dat} {v : Value} (h : OwnSl w M lo hi T d v) (hb : b < lo) (hk : ∀ k, k < w.heap.size → k ≠ b → w'.heap[k]? = w.heap[k]?) : OwnSl w' M lo hi T d v := by
  obtain ⟨xs, h1, h2, h3⟩ := h
  refine ⟨xs, ⟨h1.1, ?_⟩, h2, h3⟩
  rcases h1.2 with q | ⟨g, cap, cur, q1, q2, q3, q4⟩
  · exact .inl q
  · exact .inr ⟨g, cap, cur, q1, q2, (hk g (Array.getElem?_eq_some_iff.1 q3).1 (by omega)).trans q3, q4⟩
theorem FrRow.grown {w w' : World} {M : Mem} {lo hi b : Nat} {row : List Dat} {cs : List Value} (h : FrRow w M lo hi row cs) (hb : b < lo) (hk : ∀ k, k < w.heap.size → k ≠ b → w'.heap[k]? = w.heap[k]?) : FrRow w' M lo hi row cs := by
  obtain ⟨a1, a2, a3, a4, a5, a6, l1, l2, l3, l4, l5, l6, l7, h1, h2, h3, h4, h5, h6, h7⟩ := h.own
  exact ⟨h.l1, h.l2, h.same, a1, a2, a3, a4, a5, a6, l1, l2, l3, l4, l5, l6, l7, h1.grown (by omega) hk, h2.grown (by omega) hk, h3.grown (by omega) hk, h4.grown (by omega) hk, h5.grown (by omega) hk, h6.grown (by omega) hk, h7.grown (by omega) hk⟩
set_option maxHeartbeats 2000000 in
theorem push_in {M : Mem} {w : World} {d : Dat} {p : Option Addr} {c : Nat} {row : List Dat} {cs : List Value} (hM : MemOk M w) (h : DR lay M (.sl 43) d (.slice p d.rows.length c)) (hn : d.rows.length < 64) (hs : ∀ row, row ∈ d.rows → Short row) (hr : Dd.Good lay M (lay 43) row cs) (hsr : Short row) :
    Calls Tryz.prog 11 #[.slice p d.rows.length c, .agg cs.toArray] w fun e w' => ∃ (v' : Value) (d' : Dat), e = .returned (.tuple #[v', .int .i64 0]) ∧ d'.rows = d.rows ++ [row] ∧ DR lay (memAll M w.heap.size w') (.sl 43) d' v' ∧ Below w.heap.size w w' := by
  obtain ⟨n, hN⟩ : ∃ n, d.rows.length = n := ⟨_, rfl⟩
  have HH := Lib.hid h
  have HR := Lib.hid hr
  have hlt : n < 64 := by omega
  have hNN := Lib.hid hN
  rw [hN] at HH ⊢
  clear h hr hn hN
  obtain ⟨i0, e0⟩ : ∃ i0, Tryz.prog.info? 43 = some i0 := Option.isSome_iff_exists.1 (by kernel_rfl)
  have e1 : (Tryz.prog.info? 43).map (fun i => (i.zero.isSome, i.size, decide (i.bytes ≤ 1000))) = some (true, 35, true) := by kernel_rfl
  rw [e0] at e1
  simp only [Option.map_some, Option.some.injEq, Prod.mk.injEq, decide_eq_true_eq] at e1
  obtain ⟨e1, e2, e3⟩ := e1
  obtain ⟨z, e1⟩ := Option.isSome_iff_exists.1 e1
  have ez : (Tryz.prog.info? 43).map (fun i => i.zero.map (·.cells.size)) = some (some 35) := by kernel_rfl
  rw [e0] at ez
  simp only [Option.map_some, Option.some.injEq, e1] at ez
  go_enter Tryz.func11, Tryz.ntmps11
  go_wp2
  have hX0 : Box w.heap.size cs.toArray (w.alloc (.cells cs.toArray 43)) := by
    show (w.heap.push _)[w.heap.size]? = _
    exact Array.getElem?_push_size
  have hB0 : Below w.heap.size w (w.alloc (.cells cs.toArray 43)) := (Below.refl _ w).alloc (Nat.le_refl _) _
  generalize w.alloc (.cells cs.toArray 43) = W0 at hX0 hB0 ⊢
  refine region_late [] (Box w.heap.size cs.toArray) (by kernel_rfl) hX0 (fun hX1 => ?_)
  have hB1 : Below w.heap.size w W0.drew := hB0.drew
  clear hX0 hB0
  generalize W0.drew = W1 at hX1 hB1 ⊢
  have hcl : cs.length = 35 := HR.out.l2
  have hsz : (Tryz.prog.info? 43).map (·.size) = some cs.length := by rw [hcl]; kernel_rfl
  refine anyL_take (i := 2) (v := .agg cs.toArray) rfl (by kernel_rfl) (by kernel_rfl) (by kernel_rfl) (fun _ _ _ h => h) (by kernel_rfl) (by kernel_rfl) (by kernel_rfl) (yieldsIf_load_mid rfl 43 _ rfl w.heap.size 0 rfl cs _ (fun W hSw j v hv => (by rw [Nat.zero_add]; exact (hSw.cell j).trans (by simpa using hv))) Tryz.underlying43 rfl hsz) hX1 ?_
  (try simp only [List.getElem_toArray, List.getElem_cons_succ, List.getElem_cons_zero, Act.put, List.setIfInBounds_toArray, List.set_cons_zero, List.set_cons_succ])
  refine anyL_one (i := 0) (by kernel_rfl) rfl (fun K hK => ?_)
  go_simp
  refine hK.out _ _ (fun _ => hX1) (fun hHeld => ?_)
  clear hK K hHeld
  (try simp only [List.getElem_toArray, List.getElem_cons_succ, List.getElem_cons_zero, Act.put, List.setIfInBounds_toArray, List.set_cons_zero, List.set_cons_succ])
  refine anyL_one (i := 1) (by kernel_rfl) rfl (fun K hK => ?_)
  go_simp
  have hM1 := memOk_below hM hB1
  have cS := stack_in hM1 (d := d) (p := p) (c := c) (by rw [hNN.out]; exact HH.out) (by rw [hNN.out]; omega) hs
  rw [hNN.out] at cS
  refine cS.mono ?_
  rintro e W2 ⟨B, f, g, rfl, hlB, hSt, hb2⟩
  dsimp only
  refine hK.out _ _ (fun _ => hX1.below hb2) (fun hHeld => ?_)
  clear hK K hHeld
  (try simp only [List.getElem_toArray, List.getElem_cons_succ, List.getElem_cons_zero, Act.put, List.setIfInBounds_toArray, List.set_cons_zero, List.set_cons_succ])
  have hB2 := hB1.trans (hb2.mono hB1.size)
  refine anyL_one (i := 3) (by kernel_rfl) rfl (fun K hK => ?_)
  go_simp
  refine (own_short (memOk_below hM hB2) HR.out hsr).mono ?_
  rintro e W3 ⟨cs', rfl, hF, hb3⟩
  dsimp only
  refine hK.out _ _ (fun _ => (hX1.below hb2).below hb3) (fun hHeld => ?_)
  clear hK K hHeld
  (try simp only [List.getElem_toArray, List.getElem_cons_succ, List.getElem_cons_zero, Act.put, List.setIfInBounds_toArray, List.set_cons_zero, List.set_cons_succ])
  have hB3 := hB2.trans (hb3.mono hB2.size)
  refine anyL_one (i := 4) (by kernel_rfl) rfl (fun K hK => ?_)
  rw [if_pos (by kernel_rfl)]
  refine wp_buildSlice 22 43 1 _ rfl cs'.toArray i0 z (by kernel_rfl) e0 e1 (by rw [e2]; decide) (by rw [e2]; decide) (Eq.trans (congrArg (Instr.fill _ _) (show _ = [(0, Value.agg cs'.toArray)] by kernel_rfl)) (fill_one e2 z hF.l2)) ?_
  refine hK.out _ _ (fun _ => ((hX1.below hb2).below hb3).below ((Below.refl _ W3).alloc (Nat.le_refl _) _)) (fun hHeld => ?_)
  clear hK K hHeld
  (try simp only [List.getElem_toArray, List.getElem_cons_succ, List.getElem_cons_zero, Act.put, List.setIfInBounds_toArray, List.set_cons_zero, List.set_cons_succ])
  refine anyL_one (i := 5) (by kernel_rfl) rfl (fun K hK => ?_)
  rw [if_pos (by kernel_rfl)]
  have hcells : ∀ j u, cs'[j]? = some u → (W3.alloc (.cells cs'.toArray 43)).cell? ((⟨W3.heap.size, 0, none⟩ : Addr).add j) = some u := fun j u hu => by
    rw [Addr.add_mid, Nat.zero_add]
    refine (Sx.cell_at (show (W3.heap.push _)[W3.heap.size]? = _ from Array.getElem?_push_size) j).trans ?_
    simpa using hu
  have hB4 := hB3.trans ((Below.refl W3.heap.size W3).alloc (Nat.le_refl _) (.cells cs'.toArray 43) |>.mono hB3.size)
  obtain ⟨xs, hown, hxs⟩ := StRow.owns (lo := w.heap.size) hSt (Nat.le_trans hB1.size hlB) (by unfold maxLen; omega)
  have hown4 := own_below (own_below hown hb3) ((Below.refl W3.heap.size W3).alloc (Nat.le_refl _) (.cells cs'.toArray 43))
  refine wp_append_own _ _ _ 22 rfl w.heap.size 43 i0 z 35 i0.bytes (by kernel_rfl) e0 e1 e2 rfl ez (by decide) (.slice (some ⟨B, 0, none⟩) n n) n xs rfl hown4 ⟨W3.heap.size, 0, none⟩ 1 1 cs' rfl (by rw [hF.l2]) hcells (cs_one hF) (by unfold maxLen; omega) (Nat.le_trans (Nat.mul_le_mul (show n + 1 ≤ 64 by omega) e3) (by decide)) hB4.size ?_
  intro v' W5 hown5 hgrow _
  have hgB := hSt.2.1
  have hBl2 : B < W2.heap.size := by obtain ⟨C, e, _⟩ := hSt.1; exact (Array.getElem?_eq_some_iff.1 e).1
  have hBlt : B < W3.heap.size := Nat.lt_of_lt_of_le hBl2 hb3.size
  have hkeep : ∀ k, k < W3.heap.size → k ≠ B → W5.heap[k]? = W3.heap[k]? := fun k hk hne => by
    refine (hgrow.block k (by show k < (W3.heap.push _).size; simp; omega) (by simp [Value.ownBlock]; omega)).trans ?_
    show (W3.heap.push _)[k]? = _
    rw [Array.getElem?_push_lt hk, Array.getElem?_eq_getElem hk]
  have hB5 : Below w.heap.size w W5 := hB4.grown hgrow hB4.size (fun k hk => by simp [Value.ownBlock] at hk; have := hB1.size; omega)
  have hX5 : Box w.heap.size cs.toArray W5 := (hkeep _ (Nat.lt_of_lt_of_le hX1.lt (Nat.le_trans hb2.size hb3.size)) (by have := hX1.lt; omega)).trans ((hX1.below hb2).below hb3)
  have hM5 : M.le (memAll M w.heap.size W5) := (memAll_ok hM hB5).1
  have hnew : ∀ g c, w.heap.size ≤ g → memOf W5 g = some c → memAll M w.heap.size W5 g = some c := fun g c hg e => by
    unfold memAll
    rw [if_neg (by omega)]
    exact e
  have hD : DR lay (memAll M w.heap.size W5) (.sl 43) (.r (d.rows ++ [row])) v' := by
    have hlen : (d.rows ++ [row]).length = n + 1 := by rw [List.length_append, hNN.out]; rfl
    have hxl : xs.length = n * 35 := hown.1
    refine OwnSl.drN (lo := w.heap.size) (hi := W5.heap.size) (M := memAll M w.heap.size W5) ⟨xs ++ cs', ?_, own_lt hown5, fun i r hi => ?_⟩ (fun _ _ h => h) hnew
    · show W5.ownsRow _ _ _ _ (d.rows ++ [row]).length _
      rw [hlen]
      exact hown5
    · have hi : (d.rows ++ [row])[i]? = some r := hi
      show Dd.Good lay (memAll M w.heap.size W5) (lay 43) r (((xs ++ cs').drop (i * 35)).take 35)
      by_cases hin : i < n
      · rw [List.getElem?_append_left (by rw [hNN.out]; exact hin)] at hi
        obtain ⟨_, hBi, r', hr', hFr⟩ := hSt.2.2.2 i hin
        rw [hi] at hr'
        cases hr'
        have hec : ((xs ++ cs').drop (i * 35)).take 35 = cut f i := by
          refine List.ext_getElem? fun j => ?_
          by_cases hj : j < 35
          · rw [List.getElem?_take_of_lt hj, List.getElem?_drop, List.getElem?_append_left (by omega), hxs _ (by omega), cut, List.getElem?_map, List.getElem?_range hj]
            rfl
          · rw [List.getElem?_eq_none (by rw [List.length_take]; omega), List.getElem?_eq_none (by rw [cut_length]; omega)]
        rw [hec]
        exact ((hFr.below hb3).grown hBi hkeep).goodN hM5 fun g' c q => hnew g' c (by have := hB1.size; omega)
      · have hie : i = n := by
          have := (List.getElem?_eq_some_iff.1 hi).1
          rw [hlen] at this
          omega
        subst hie
        rw [List.getElem?_append_right (by rw [hNN.out]; exact Nat.le_refl _), hNN.out, Nat.sub_self] at hi
        cases hi
        rw [List.drop_append_of_le_length (by omega), List.drop_of_length_le (by omega), List.nil_append, List.take_of_length_le (by rw [hF.l2]; exact Nat.le_refl _)]
        exact (hF.grown hBl2 hkeep).goodN hM5 fun g' c q => hnew g' c (by have := hB2.size; omega)
  refine hK.out _ _ (fun _ => hX5) (fun hHeld => ?_)
  clear hK K hHeld
  (try simp only [List.getElem_toArray, List.getElem_cons_succ, List.getElem_cons_zero, Act.put, List.setIfInBounds_toArray, List.set_cons_zero, List.set_cons_succ])
  refine anyL_one (i := 6) (by kernel_rfl) rfl (fun K hK => ?_)
  go_simp
  refine hK.out _ _ (fun _ => hX5) (fun hHeld => ?_)
  clear hK K hHeld
  (try simp only [List.getElem_toArray, List.getElem_cons_succ, List.getElem_cons_zero, Act.put, List.setIfInBounds_toArray, List.set_cons_zero, List.set_cons_succ])
  refine anyL_one (i := 7) (by kernel_rfl) rfl (fun K hK => ?_)
  go_simp
  refine hK.out _ _ (fun _ => hX5) (fun hHeld => ?_)
  clear hK K hHeld
  (try simp only [List.getElem_toArray, List.getElem_cons_succ, List.getElem_cons_zero, Act.put, List.setIfInBounds_toArray, List.set_cons_zero, List.set_cons_succ])
  refine anyL_done (by kernel_rfl) ?_ _
  go_wp2
  go_ret2
  exact ⟨v', _, rfl, rfl, hD, hB5⟩
end Go.Proofs.YtgjfdbbghefdbaaGreatDoor.Lt
