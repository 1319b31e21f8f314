/-
  slices.Index, Contains at int8; guard.kinds. Conditions: as said.
-/
import Derived.Test.YtlhobpknflobgaaGreatDoorGd4
namespace Go.Proofs.YtlhobpknflobgaaGreatDoor
open Go.RowKit

/-- A row of small numbers. -/
def I8At (w : World) (b : Nat) (l : List Int) : Prop := ∀ i (h : i < l.length), w.cell? ⟨b, i, none⟩ = some (.int .i8 l[i])
theorem I8At.under {w w' : World} {b : Nat} {l : List Int} (h : I8At w b l) (hb : Below w.heap.size w w') : I8At w' b l := fun i hi => (hb.cell (p := ⟨b, i, none⟩) (cell_block (h i hi))).trans (h i hi)
def IdxI (w : World) (k : Int) (l : List Int) (e : Ending) (w' : World) : Prop := (∃ n : Int, e = .returned (.int .i64 n) ∧ (if (l.any fun u => k == u) = true then 0 ≤ n else n = -1)) ∧ w = w'

set_option maxHeartbeats 1000000 in
theorem index8_any {w : World} {b c : Nat} {l : List Int} (h : I8At w b l) (hl : l.length ≤ 100) (s : Int) : Calls Tryz.prog 146 #[.slice (some ⟨b, 0, none⟩) l.length c, .int .i8 s] w (IdxI w s l) := by
  have H := Lib.hid h
  clear h
  go_enter Tryz.func146, Tryz.ntmps146
  go_wp2
  go_loopw [8] (fun i wr => ∃ k : Nat, k ≤ l.length ∧ i = .int .i64 k ∧ ((l.take k).any fun u => s == u) = false ∧ w = wr) (fun i _ => l.length - (intOf i).toNat)
  case atStart => exact ⟨0, Nat.zero_le _, rfl, rfl, rfl⟩
  case round =>
    obtain ⟨k, hk, rfl, hrest, rfl⟩ := hrel
    by_cases hlt : k < l.length
    · have hu := H.out k hlt
      have hmem := List.getElem_mem hlt
      have htk := List.take_succ_eq_append_getElem hlt
      generalize l[k] = u at hu hmem htk
      cases hq : (s == u)
      · have hnext : ((l.take (k + 1)).any fun u => s == u) = false := by
          rw [htk, List.any_append, hrest]; simp only [List.any_cons, List.any_nil, hq]; rfl
        have HN := Lib.hid hnext
        clear hnext hrest hmem htk
        go_wp2
        go_roundw
        case rel => exact ⟨k + 1, hlt, by go_num, HN.out, by first | rfl | trivial⟩
        case measure => simp [intOf]; omega
      · have hany : (l.any fun u => s == u) = true := List.any_eq_true.2 ⟨_, hmem, hq⟩
        have HN := Lib.hid hany
        clear hany hrest hmem htk
        go_wp2
        go_ret
        exact ⟨⟨k, rfl, by rw [if_pos HN.out]; omega⟩, rfl⟩
    · rw [List.take_of_length_le (by omega)] at hrest
      have HN := Lib.hid hrest
      clear hrest
      go_wp2
      go_ret
      exact ⟨⟨-1, rfl, by rw [if_neg (by rw [HN.out]; simp)]⟩, rfl⟩
set_option maxHeartbeats 1000000 in
theorem contains8_any {w : World} {b c : Nat} {l : List Int} (h : I8At w b l) (hl : l.length ≤ 100) (s : Int) : Calls Tryz.prog 99 #[.slice (some ⟨b, 0, none⟩) l.length c, .int .i8 s] w fun e w' => e = .returned (.bool (l.any fun u => s == u)) ∧ w = w' := by
  have cI := index8_any (c := c) h hl s
  clear h
  generalize hq : (l.any fun u => s == u) = q
  have HQ := Lib.hid hq
  clear hq
  go_enter Tryz.func99, Tryz.ntmps99
  go_upto_region 1 with fail
  cases q
  · go_wp2_with (go_at_call 146; refine cI.mono ?_; rintro e w5 ⟨⟨n, rfl, hn⟩, rfl⟩; rw [if_neg (by rw [HQ.out]; simp)] at hn; subst hn)
    go_ret
    exact ⟨rfl, rfl⟩
  · go_wp2_with (go_at_call 146; refine cI.mono ?_; rintro e w5 ⟨⟨n, rfl, hn⟩, rfl⟩; rw [if_pos HQ.out] at hn)
    go_ret
    exact ⟨by simp, rfl⟩

section
variable {P : Program} {w : World} {ops : Array Oper} {rest : List Oper} {o : Oper} {a : Act} {Q : Exit → Act → World → Prop}
theorem turn_map {w : World} {b : Nat} {es : Array MapEntry} {clock : Nat} : Turn (· = b) w { w with heap := w.heap.setIfInBounds b (.map es clock) } :=
  ⟨rfl, rfl, rfl, by simp, fun k hk hb => by simp [Array.getElem?_setIfInBounds]; intro h; exact absurd h.symm hb⟩
theorem wpList_insert_new2 (hg : o.guard = none) (m x v : Operand) (t : TypeId) (hop : o.op = Op.insert t m x v) (k e : TypeId) (ht : P.underlying t = some (.map k e)) (hk : P.underlying k = some .string) (b : Nat) (es : Array MapEntry) (clock : Nat)
    (hm : a.eval m = .map (some b)) (hb : w.heap[b]? = some (.map es clock)) (s : ByteArray) (val : Value) (hx : a.eval x = .string s) (hv : a.eval v = val) (hf : Instr.findNow .string (.string s) es.toList 0 = some none)
    (h : ∀ w', w'.heap[b]? = some (.map (es.push { key := .string s, val := val, born := clock }) (clock + 1)) → Turn (· = b) w w' → wpList P ops Q rest (a.put o.dst undef) w') : wpList P ops Q (o :: rest) a w := by
  refine wpList_plain hg fun K' hK' => ?_
  have hrun := run_insert_new (P := P) ht hk hb val hf
  unfold Oper.wp
  simp [execOp, hop, hm, hx, hv, hrun, Result.andThen]
  exact hK' _ _ (h _ (MapKept.heap_set hb).1 turn_map)
theorem step_lookup1_hit {K : Act → World → Prop} {E : Prop} (hg : o.guard = none) (m x : Operand) (t : TypeId) (hop : o.op = Op.lookup t m x false) (k e : TypeId) (ht : P.underlying t = some (.map k e)) (hk : P.underlying k = some .string) (b : Nat) (es : Array MapEntry) (clock : Nat)
    (hm : a.eval m = .map (some b)) (hb : w.heap[b]? = some (.map es clock)) (s : ByteArray) (hx : a.eval x = .string s) (i : Nat) (v : Value) (hf : Instr.findNow .string (.string s) es.toList 0 = some (some (i, v)))
    (h : K (a.put o.dst v) w) : if Region.wanted o (yielded ops a.tmps) = true then Oper.wp P o a w K Q else E := by
  have hw : Region.wanted o (yielded ops a.tmps) = true := by simp [Region.wanted, hg]
  rw [if_pos hw]
  have hrun := run_lookup1_hit (P := P) ht hk hb hf
  unfold Oper.wp
  simp [execOp, hop, hm, hx, hrun, Result.andThen]
  exact h
end

/-- The kinds that a test is of. -/
def knL (s : ByteArray) : List Int := if s.toList == [105, 115, 95, 97, 116, 111, 109] then [1] else if s.toList == [105, 115, 95, 105, 110, 116, 101, 103, 101, 114] then [0] else if s.toList == [105, 115, 95, 112, 105, 100] then [4] else if s.toList == [105, 115, 95, 114, 101, 102, 101, 114, 101, 110, 99, 101] then [2] else if s.toList == [105, 115, 95, 116, 117, 112, 108, 101] then [5] else if s.toList == [105, 115, 95, 102, 117, 110, 99, 116, 105, 111, 110] then [3] else [6, 7]
def knEs (b1 b2 b3 b4 b5 b6 b7 : Nat) : Array MapEntry := #[{ key := .string ⟨#[105, 115, 95, 97, 116, 111, 109]⟩, val := .slice (some ⟨b1, 0, none⟩) 1 1, born := 0 }, { key := .string ⟨#[105, 115, 95, 105, 110, 116, 101, 103, 101, 114]⟩, val := .slice (some ⟨b2, 0, none⟩) 1 1, born := 1 }, { key := .string ⟨#[105, 115, 95, 112, 105, 100]⟩, val := .slice (some ⟨b3, 0, none⟩) 1 1, born := 2 }, { key := .string ⟨#[105, 115, 95, 114, 101, 102, 101, 114, 101, 110, 99, 101]⟩, val := .slice (some ⟨b4, 0, none⟩) 1 1, born := 3 }, { key := .string ⟨#[105, 115, 95, 116, 117, 112, 108, 101]⟩, val := .slice (some ⟨b5, 0, none⟩) 1 1, born := 4 }, { key := .string ⟨#[105, 115, 95, 102, 117, 110, 99, 116, 105, 111, 110]⟩, val := .slice (some ⟨b6, 0, none⟩) 1 1, born := 5 }, { key := .string ⟨#[105, 115, 95, 108, 105, 115, 116]⟩, val := .slice (some ⟨b7, 0, none⟩) 2 2, born := 6 }]
theorem kn_find (s : ByteArray) (hs : kndS s = true) (b1 b2 b3 b4 b5 b6 b7 : Nat) {w : World} (h1 : I8At w b1 [1]) (h2 : I8At w b2 [0]) (h3 : I8At w b3 [4]) (h4 : I8At w b4 [2]) (h5 : I8At w b5 [5]) (h6 : I8At w b6 [3]) (h7 : I8At w b7 [6, 7]) : ∃ i b, Instr.findNow .string (.string s) (knEs b1 b2 b3 b4 b5 b6 b7).toList 0 = some (some (i, .slice (some ⟨b, 0, none⟩) (knL s).length (knL s).length)) ∧ I8At w b (knL s) := by
  have hc : s.toList = [105, 115, 95, 97, 116, 111, 109] ∨ s.toList = [105, 115, 95, 105, 110, 116, 101, 103, 101, 114] ∨ s.toList = [105, 115, 95, 112, 105, 100] ∨ s.toList = [105, 115, 95, 114, 101, 102, 101, 114, 101, 110, 99, 101] ∨ s.toList = [105, 115, 95, 116, 117, 112, 108, 101] ∨ s.toList = [105, 115, 95, 108, 105, 115, 116] ∨ s.toList = [105, 115, 95, 102, 117, 110, 99, 116, 105, 111, 110] := by
    simpa [kndS, kinds7] using hs
  rcases hc with hc | hc | hc | hc | hc | hc | hc
  · have e : knL s = [1] := by unfold knL; rw [hc]; decide
    have h' : s.data.toList = [105, 115, 95, 97, 116, 111, 109] := by rw [← ByteArray.toList_eq]; exact hc
    exact ⟨0, b1, by rw [e]; simp [knEs, findNow_cons, ByteArray.toList_eq, h'], by rw [e]; exact h1⟩
  · have e : knL s = [0] := by unfold knL; rw [hc]; decide
    have h' : s.data.toList = [105, 115, 95, 105, 110, 116, 101, 103, 101, 114] := by rw [← ByteArray.toList_eq]; exact hc
    exact ⟨1, b2, by rw [e]; simp [knEs, findNow_cons, ByteArray.toList_eq, h'], by rw [e]; exact h2⟩
  · have e : knL s = [4] := by unfold knL; rw [hc]; decide
    have h' : s.data.toList = [105, 115, 95, 112, 105, 100] := by rw [← ByteArray.toList_eq]; exact hc
    exact ⟨2, b3, by rw [e]; simp [knEs, findNow_cons, ByteArray.toList_eq, h'], by rw [e]; exact h3⟩
  · have e : knL s = [2] := by unfold knL; rw [hc]; decide
    have h' : s.data.toList = [105, 115, 95, 114, 101, 102, 101, 114, 101, 110, 99, 101] := by rw [← ByteArray.toList_eq]; exact hc
    exact ⟨3, b4, by rw [e]; simp [knEs, findNow_cons, ByteArray.toList_eq, h'], by rw [e]; exact h4⟩
  · have e : knL s = [5] := by unfold knL; rw [hc]; decide
    have h' : s.data.toList = [105, 115, 95, 116, 117, 112, 108, 101] := by rw [← ByteArray.toList_eq]; exact hc
    exact ⟨4, b5, by rw [e]; simp [knEs, findNow_cons, ByteArray.toList_eq, h'], by rw [e]; exact h5⟩
  · have e : knL s = [6, 7] := by unfold knL; rw [hc]; decide
    have h' : s.data.toList = [105, 115, 95, 108, 105, 115, 116] := by rw [← ByteArray.toList_eq]; exact hc
    exact ⟨6, b7, by rw [e]; simp [knEs, findNow_cons, ByteArray.toList_eq, h'], by rw [e]; exact h7⟩
  · have e : knL s = [3] := by unfold knL; rw [hc]; decide
    have h' : s.data.toList = [105, 115, 95, 102, 117, 110, 99, 116, 105, 111, 110] := by rw [← ByteArray.toList_eq]; exact hc
    exact ⟨5, b6, by rw [e]; simp [knEs, findNow_cons, ByteArray.toList_eq, h'], by rw [e]; exact h6⟩
theorem i8_one {w : World} {b : Nat} {k : Int} {T : TypeId} (h : w.heap[b]? = some (.cells #[.int .i8 k] T (0, 0))) : I8At w b [k] := fun i hi => by
  match i, hi with
  | 0, _ => exact (arr_cell h).trans rfl
theorem i8_two {w : World} {b : Nat} {k m : Int} {T : TypeId} (h : w.heap[b]? = some (.cells #[.int .i8 k, .int .i8 m] T (0, 0))) : I8At w b [k, m] := fun i hi => by
  match i, hi with
  | 0, _ => exact (arr_cell h).trans rfl
  | 1, _ => exact (arr_cell h).trans rfl
/-- What guard.kinds tells. -/
def KnSays (w : World) (e : Ending) (w' : World) : Prop := ∃ m es clock, e = .returned (.map (some m)) ∧ w'.heap[m]? = some (.map es clock) ∧ Below w.heap.size w w' ∧ ∀ s, kndS s = true → ∃ i b, Instr.findNow .string (.string s) es.toList 0 = some (some (i, .slice (some ⟨b, 0, none⟩) (knL s).length (knL s).length)) ∧ I8At w' b (knL s)

set_option maxHeartbeats 8000000 in
set_option maxRecDepth 100000 in
theorem kinds_any (w : World) : Calls Tryz.prog 100 #[] w (KnSays w) := by
  have hmk := fun (W : World) => run_mk (P := Tryz.prog) W 112
  obtain ⟨hma0, hx1, hb0, hz0⟩ := two_new w (.map #[] 0) (.cells #[.int .i8 1] 22)
  have HX1 := Lib.hid hx1
  have HB0 := Lib.hid hb0
  clear hx1 hb0 hz0
  go_enter Tryz.func100, Tryz.ntmps100
  go_wp2_with (first
    | (refine wpList_insert_new2 rfl (.tmp 1) (.const (.string ⟨#[105, 115, 95, 97, 116, 111, 109]⟩)) (.tmp 2) 112 rfl _ _ Tryz.underlying112 Tryz.underlying9 w.heap.size _ _ rfl hma0 _ (.slice (some ⟨w.heap.size + 1, 0, none⟩) 1 1) rfl rfl (by kernel_rfl) ?_; intro w1 hm1 ht1; have hma1 := (heap_old w1 (.cells #[.int .i8 0] 22) (Array.getElem?_eq_some_iff.1 hm1).1).trans hm1)
    | (refine wpList_insert_new2 rfl (.tmp 1) (.const (.string ⟨#[105, 115, 95, 105, 110, 116, 101, 103, 101, 114]⟩)) (.tmp 3) 112 rfl _ _ Tryz.underlying112 Tryz.underlying9 w.heap.size _ _ rfl hma1 _ (.slice (some ⟨w1.heap.size, 0, none⟩) 1 1) rfl rfl (by kernel_rfl) ?_; intro w2 hm2 ht2; have hma2 := (heap_old w2 (.cells #[.int .i8 4] 22) (Array.getElem?_eq_some_iff.1 hm2).1).trans hm2)
    | (refine wpList_insert_new2 rfl (.tmp 1) (.const (.string ⟨#[105, 115, 95, 112, 105, 100]⟩)) (.tmp 4) 112 rfl _ _ Tryz.underlying112 Tryz.underlying9 w.heap.size _ _ rfl hma2 _ (.slice (some ⟨w2.heap.size, 0, none⟩) 1 1) rfl rfl (by kernel_rfl) ?_; intro w3 hm3 ht3; have hma3 := (heap_old w3 (.cells #[.int .i8 2] 22) (Array.getElem?_eq_some_iff.1 hm3).1).trans hm3)
    | (refine wpList_insert_new2 rfl (.tmp 1) (.const (.string ⟨#[105, 115, 95, 114, 101, 102, 101, 114, 101, 110, 99, 101]⟩)) (.tmp 5) 112 rfl _ _ Tryz.underlying112 Tryz.underlying9 w.heap.size _ _ rfl hma3 _ (.slice (some ⟨w3.heap.size, 0, none⟩) 1 1) rfl rfl (by kernel_rfl) ?_; intro w4 hm4 ht4; have hma4 := (heap_old w4 (.cells #[.int .i8 5] 22) (Array.getElem?_eq_some_iff.1 hm4).1).trans hm4)
    | (refine wpList_insert_new2 rfl (.tmp 1) (.const (.string ⟨#[105, 115, 95, 116, 117, 112, 108, 101]⟩)) (.tmp 6) 112 rfl _ _ Tryz.underlying112 Tryz.underlying9 w.heap.size _ _ rfl hma4 _ (.slice (some ⟨w4.heap.size, 0, none⟩) 1 1) rfl rfl (by kernel_rfl) ?_; intro w5 hm5 ht5; have hma5 := (heap_old w5 (.cells #[.int .i8 3] 22) (Array.getElem?_eq_some_iff.1 hm5).1).trans hm5)
    | (refine wpList_insert_new2 rfl (.tmp 1) (.const (.string ⟨#[105, 115, 95, 102, 117, 110, 99, 116, 105, 111, 110]⟩)) (.tmp 7) 112 rfl _ _ Tryz.underlying112 Tryz.underlying9 w.heap.size _ _ rfl hma5 _ (.slice (some ⟨w5.heap.size, 0, none⟩) 1 1) rfl rfl (by kernel_rfl) ?_; intro w6 hm6 ht6; have hma6 := (heap_old w6 (.cells #[.int .i8 6, .int .i8 7] 22) (Array.getElem?_eq_some_iff.1 hm6).1).trans hm6)
    | (refine wpList_insert_new2 rfl (.tmp 1) (.const (.string ⟨#[105, 115, 95, 108, 105, 115, 116]⟩)) (.tmp 8) 112 rfl _ _ Tryz.underlying112 Tryz.underlying9 w.heap.size _ _ rfl hma6 _ (.slice (some ⟨w6.heap.size, 0, none⟩) 2 2) rfl rfl (by kernel_rfl) ?_; intro w7 hm7 ht7))
  have T0 : Turn (· = w.heap.size) ((w.alloc (.map #[] 0)).alloc (.cells #[.int .i8 1] 22)) w1 := ht1
  have T1 : Turn (· = w.heap.size) w1 w2 := (Turn.alloc _ w1 (.cells #[.int .i8 0] 22)).trans ht2
  have T2 : Turn (· = w.heap.size) w2 w3 := (Turn.alloc _ w2 (.cells #[.int .i8 4] 22)).trans ht3
  have T3 : Turn (· = w.heap.size) w3 w4 := (Turn.alloc _ w3 (.cells #[.int .i8 2] 22)).trans ht4
  have T4 : Turn (· = w.heap.size) w4 w5 := (Turn.alloc _ w4 (.cells #[.int .i8 5] 22)).trans ht5
  have T5 : Turn (· = w.heap.size) w5 w6 := (Turn.alloc _ w5 (.cells #[.int .i8 3] 22)).trans ht6
  have T6 : Turn (· = w.heap.size) w6 w7 := (Turn.alloc _ w6 (.cells #[.int .i8 6, .int .i8 7] 22)).trans ht7
  have S7 : Turn (· = w.heap.size) w7 w7 := Turn.refl _ _
  have S6 : Turn (· = w.heap.size) w6 w7 := T6.trans S7
  have S5 : Turn (· = w.heap.size) w5 w7 := T5.trans S6
  have S4 : Turn (· = w.heap.size) w4 w7 := T4.trans S5
  have S3 : Turn (· = w.heap.size) w3 w7 := T3.trans S4
  have S2 : Turn (· = w.heap.size) w2 w7 := T2.trans S3
  have S1 : Turn (· = w.heap.size) w1 w7 := T1.trans S2
  have hlt0 : w.heap.size + 1 < ((w.alloc (.map #[] 0)).alloc (.cells #[.int .i8 1] 22)).heap.size := by simp
  have hz1 : w.heap.size + 1 < w1.heap.size := Nat.lt_of_lt_of_le hlt0 T0.size
  have hz2 : w.heap.size + 1 < w2.heap.size := Nat.lt_of_lt_of_le hz1 T1.size
  have hz3 : w.heap.size + 1 < w3.heap.size := Nat.lt_of_lt_of_le hz2 T2.size
  have hz4 : w.heap.size + 1 < w4.heap.size := Nat.lt_of_lt_of_le hz3 T3.size
  have hz5 : w.heap.size + 1 < w5.heap.size := Nat.lt_of_lt_of_le hz4 T4.size
  have hz6 : w.heap.size + 1 < w6.heap.size := Nat.lt_of_lt_of_le hz5 T5.size
  have hz7 : w.heap.size + 1 < w7.heap.size := Nat.lt_of_lt_of_le hz6 T6.size
  have f1 : w7.heap[w.heap.size + 1]? = some (.cells #[.int .i8 1] 22 (0, 0)) := (S1.block _ hz1 (by omega)).trans ((T0.block _ hlt0 (by omega)).trans HX1.out)
  have f2 : w7.heap[w1.heap.size]? = some (.cells #[.int .i8 0] 22 (0, 0)) := (S2.block _ (Nat.lt_of_lt_of_le (by simp) ht2.size) (by omega)).trans ((ht2.block _ (by simp) (by omega)).trans (heap_new w1 _))
  have f3 : w7.heap[w2.heap.size]? = some (.cells #[.int .i8 4] 22 (0, 0)) := (S3.block _ (Nat.lt_of_lt_of_le (by simp) ht3.size) (by omega)).trans ((ht3.block _ (by simp) (by omega)).trans (heap_new w2 _))
  have f4 : w7.heap[w3.heap.size]? = some (.cells #[.int .i8 2] 22 (0, 0)) := (S4.block _ (Nat.lt_of_lt_of_le (by simp) ht4.size) (by omega)).trans ((ht4.block _ (by simp) (by omega)).trans (heap_new w3 _))
  have f5 : w7.heap[w4.heap.size]? = some (.cells #[.int .i8 5] 22 (0, 0)) := (S5.block _ (Nat.lt_of_lt_of_le (by simp) ht5.size) (by omega)).trans ((ht5.block _ (by simp) (by omega)).trans (heap_new w4 _))
  have f6 : w7.heap[w5.heap.size]? = some (.cells #[.int .i8 3] 22 (0, 0)) := (S6.block _ (Nat.lt_of_lt_of_le (by simp) ht6.size) (by omega)).trans ((ht6.block _ (by simp) (by omega)).trans (heap_new w5 _))
  have f7 : w7.heap[w6.heap.size]? = some (.cells #[.int .i8 6, .int .i8 7] 22 (0, 0)) := (S7.block _ (Nat.lt_of_lt_of_le (by simp) ht7.size) (by omega)).trans ((ht7.block _ (by simp) (by omega)).trans (heap_new w6 _))
  have hB : Below w.heap.size w w7 := HB0.out.trans ((T0.trans S1).below (by simp; omega) (by intro k hk; omega))
  go_ret
  refine ⟨w.heap.size, _, _, rfl, hm7, hB, fun s hs => kn_find s hs (w.heap.size + 1) w1.heap.size w2.heap.size w3.heap.size w4.heap.size w5.heap.size w6.heap.size (i8_one f1) (i8_one f2) (i8_one f3) (i8_one f4) (i8_one f5) (i8_one f6) (i8_two f7)⟩
end Go.Proofs.YtlhobpknflobgaaGreatDoor
