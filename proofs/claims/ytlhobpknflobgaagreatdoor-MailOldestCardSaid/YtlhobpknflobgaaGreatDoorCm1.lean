/-
  ints.Compare, ast.compares. No condition.
-/
import Derived.Test.YtlhobpknflobgaaGreatDoorSm1
namespace Go.Proofs.YtlhobpknflobgaaGreatDoor
open Go.RowKit

/-- What a comparison tells of less, same, greater. -/
def icR (s : ByteArray) : Option (Bool × Bool × Bool) :=
  if s.toList == [61, 58, 61] then some (false, true, false) else if s.toList == [61, 47, 61] then some (true, false, true) else if s.toList == [60] then some (true, false, false)
  else if s.toList == [61, 60] then some (true, true, false) else if s.toList == [62] then some (false, false, true) else if s.toList == [62, 61] then some (false, true, true) else none
/-- Is a word a comparison's? -/
def icOk (s : ByteArray) : Bool := (icR s).isSome
def icPick (r : Option (Bool × Bool × Bool)) (c : Int) : Bool := match r with
  | none => false
  | some (l, e, g) => if c < 0 then l else if c = 0 then e else g
/-- Does a comparison hold? -/
def icB (s : ByteArray) (c : Int) : Bool := icPick (icR s) c
def icEnt (k : Array UInt8) (a b c : Bool) (n : Nat) : MapEntry := { key := .string ⟨k⟩, val := .agg #[.bool a, .bool b, .bool c], born := n }
def icEs : Array MapEntry := #[icEnt #[61, 58, 61] false true false 0, icEnt #[61, 47, 61] true false true 1, icEnt #[60] true false false 2, icEnt #[61, 60] true true false 3, icEnt #[62] false false true 4, icEnt #[62, 61] false true true 5]
theorem find_ic (s : ByteArray) : Instr.findNow .string (.string s) icEs.toList 0 = some ((icR s).map fun r => ((if s.toList == [61, 58, 61] then 0 else if s.toList == [61, 47, 61] then 1 else if s.toList == [60] then 2 else if s.toList == [61, 60] then 3 else if s.toList == [62] then 4 else 5), .agg #[.bool r.1, .bool r.2.1, .bool r.2.2])) := by
  have e : ∀ k : Array UInt8, (⟨k⟩ : ByteArray).toList = k.toList := fun k => by rw [ByteArray.toList_eq]
  unfold icEs icEnt icR
  simp only [findNow_cons, findNow_nil, e]
  cases h1 : s.toList == [61, 58, 61] <;> cases h2 : s.toList == [61, 47, 61] <;> cases h3 : s.toList == [60] <;> cases h4 : s.toList == [61, 60] <;> cases h5 : s.toList == [62] <;> cases h6 : s.toList == [62, 61] <;> simp_all

theorem ic_zero (w : World) : (zeroValue 148).run Tryz.prog w = .ok (.agg #[.bool false, .bool false, .bool false]) w := by kernel_rfl
theorem size3 (a b c : Bool) : (Tryz.prog.info? 148).map (·.size) = some (#[Value.bool a, .bool b, .bool c] : Array Value).size := by kernel_rfl

set_option maxHeartbeats 4000000 in
set_option maxRecDepth 100000 in
theorem icompare_any (w : World) (s : ByteArray) (c : Int) :
    Calls Tryz.prog 101 #[.string s, .int .i64 c] w fun e w' => e = .returned (.tuple #[.bool (icB s c), .bool (icOk s)]) ∧ Below w.heap.size w w' := by
  have hm0 : (w.alloc (.map #[] 0)).heap[w.heap.size]? = some (.map #[] 0) := heap_new w _
  have hb0 := alloc_below w (.map #[] 0)
  have hmk := fun (W : World) => run_mk (P := Tryz.prog) W 149
  go_enter Tryz.func101, Tryz.ntmps101
  go_upto_region 2 with (first
    | (refine wpList_insert_new rfl (.tmp 9) (.const (.string ⟨#[61, 58, 61]⟩)) (.tmp 10) 149 rfl _ _ Tryz.underlying149 Tryz.underlying9 w.heap.size _ _ rfl hm0 _ (.agg #[.bool false, .bool true, .bool false]) rfl rfl (by kernel_rfl) w.heap.size (Nat.le_refl _) ?_; intro w1 hm1 hb1)
    | (refine wpList_insert_new rfl (.tmp 9) (.const (.string ⟨#[61, 47, 61]⟩)) (.tmp 11) 149 rfl _ _ Tryz.underlying149 Tryz.underlying9 w.heap.size _ _ rfl hm1 _ (.agg #[.bool true, .bool false, .bool true]) rfl rfl (by kernel_rfl) w.heap.size (Nat.le_refl _) ?_; intro w2 hm2 hb2)
    | (refine wpList_insert_new rfl (.tmp 9) (.const (.string ⟨#[60]⟩)) (.tmp 12) 149 rfl _ _ Tryz.underlying149 Tryz.underlying9 w.heap.size _ _ rfl hm2 _ (.agg #[.bool true, .bool false, .bool false]) rfl rfl (by kernel_rfl) w.heap.size (Nat.le_refl _) ?_; intro w3 hm3 hb3)
    | (refine wpList_insert_new rfl (.tmp 9) (.const (.string ⟨#[61, 60]⟩)) (.tmp 13) 149 rfl _ _ Tryz.underlying149 Tryz.underlying9 w.heap.size _ _ rfl hm3 _ (.agg #[.bool true, .bool true, .bool false]) rfl rfl (by kernel_rfl) w.heap.size (Nat.le_refl _) ?_; intro w4 hm4 hb4)
    | (refine wpList_insert_new rfl (.tmp 9) (.const (.string ⟨#[62]⟩)) (.tmp 14) 149 rfl _ _ Tryz.underlying149 Tryz.underlying9 w.heap.size _ _ rfl hm4 _ (.agg #[.bool false, .bool false, .bool true]) rfl rfl (by kernel_rfl) w.heap.size (Nat.le_refl _) ?_; intro w5 hm5 hb5)
    | (refine wpList_insert_new rfl (.tmp 9) (.const (.string ⟨#[62, 61]⟩)) (.tmp 15) 149 rfl _ _ Tryz.underlying149 Tryz.underlying9 w.heap.size _ _ rfl hm5 _ (.agg #[.bool false, .bool true, .bool true]) rfl rfl (by kernel_rfl) w.heap.size (Nat.le_refl _) ?_; intro w6 hm6 hb6))
  have hm7 : w6.heap[w.heap.size]? = some (.map icEs 6) := hm6
  have hB6 : Below w.heap.size w w6 := (hb0.trans (hb1.mono (Nat.le_refl _))).trans ((hb2.trans hb3).trans ((hb4.trans hb5).trans hb6))
  have hf := find_ic s
  have HC : Hid (icB s c = icPick (icR s) c) := Lib.hid rfl
  have HO : Hid (icOk s = (icR s).isSome) := Lib.hid rfl
  clear hm0 hb0 hm1 hb1 hm2 hb2 hm3 hb3 hm4 hb4 hm5 hb5 hm6 hb6
  generalize hr : icR s = r at hf HC HO
  generalize (if s.toList == [61, 58, 61] then 0 else if s.toList == [61, 47, 61] then 1 else if s.toList == [60] then 2 else if s.toList == [61, 60] then 3 else if s.toList == [62] then 4 else 5) = ix at hf
  clear hr
  have hn : (w6.alloc (.cells #[.bool false, .bool false, .bool false] 148)).heap[w6.heap.size]? = some (.cells #[.bool false, .bool false, .bool false] 148 (0, 0)) := heap_new w6 _
  have hb7 := alloc_below w6 (.cells #[.bool false, .bool false, .bool false] 148)
  have hz := ic_zero w6
  cases r with
  | none =>
    have hf0 : Instr.findNow .string (.string s) icEs.toList 0 = some none := hf
    have HV : Hid (icB s c = false) := by unfold Hid; rw [HC.out]; rfl
    have HW : Hid (icOk s = false) := by unfold Hid; rw [HO.out]; rfl
    have HF := Lib.hid hf0
    clear hf hf0 HC HO
    go_upto_region 3 with (first
      | (refine wpList_lookup_miss rfl (.tmp 18) (.tmp 19) 149 rfl _ _ Tryz.underlying149 Tryz.underlying9 w.heap.size _ _ rfl hm7 s rfl HF.out _ hz ?_)
      | (refine wpList_store_row rfl 148 _ _ rfl w6.heap.size #[.bool false, .bool false, .bool false] (by kernel_rfl) (by kernel_rfl) 148 #[.bool false, .bool false, .bool false] hn (size3 _ _ _) (by kernel_rfl) (by kernel_rfl) ?_))
    have hr8 := setRow_heap' (cells := #[.bool false, .bool false, .bool false]) hn
    have hb8 := below_setRow (cells := #[.bool false, .bool false, .bool false]) hb7 (Nat.le_refl _)
    generalize (w6.alloc (.cells #[.bool false, .bool false, .bool false] 148)).setRow w6.heap.size #[.bool false, .bool false, .bool false] = w8 at hr8 hb8 ⊢
    have c0 : w8.cell? ⟨w6.heap.size, 0, none⟩ = some (.bool false) := arr_cell hr8
    have c1 : w8.cell? ⟨w6.heap.size, 1, none⟩ = some (.bool false) := arr_cell hr8
    have c2 : w8.cell? ⟨w6.heap.size, 2, none⟩ = some (.bool false) := arr_cell hr8
    have hB8 := hB6.trans (hb8.mono hB6.size)
    clear hm7 hn hb7 hr8 hb8 hz
    have h3 : (c < -1 ∨ 1 < c) ∨ (c = -1 ∨ c = 0 ∨ c = 1) := by omega
    rcases h3 with (h3 | h3) | (rfl | rfl | rfl)
    · have h4 : ¬ -1 ≤ c := by omega
      go_wp2
      go_ret2
      exact ⟨by rw [HV.out, HW.out]; rfl, hB8⟩
    · have h4 : -1 ≤ c := by omega
      have h5 : ¬ c ≤ 1 := by omega
      go_wp2
      go_ret2
      exact ⟨by rw [HV.out, HW.out]; rfl, hB8⟩
    all_goals
      go_wp2
      go_ret2
      exact ⟨by rw [HV.out, HW.out]; rfl, hB8⟩
  | some r =>
    obtain ⟨r1, r2, r3⟩ := r
    have hf0 : Instr.findNow .string (.string s) icEs.toList 0 = some (some (ix, .agg #[.bool r1, .bool r2, .bool r3])) := hf
    have HW : Hid (icOk s = true) := by unfold Hid; rw [HO.out]; rfl
    have HF := Lib.hid hf0
    clear hf hf0 HO
    go_upto_region 3 with (first
      | (refine wpList_lookup_hit rfl (.tmp 18) (.tmp 19) 149 rfl _ _ Tryz.underlying149 Tryz.underlying9 w.heap.size _ _ rfl hm7 s rfl _ _ HF.out ?_)
      | (refine wpList_store_row rfl 148 _ _ rfl w6.heap.size #[.bool r1, .bool r2, .bool r3] (by kernel_rfl) (by kernel_rfl) 148 #[.bool false, .bool false, .bool false] hn (size3 _ _ _) (by kernel_rfl) (by kernel_rfl) ?_))
    have hr8 := setRow_heap' (cells := #[.bool r1, .bool r2, .bool r3]) hn
    have hb8 := below_setRow (cells := #[.bool r1, .bool r2, .bool r3]) hb7 (Nat.le_refl _)
    generalize (w6.alloc (.cells #[.bool false, .bool false, .bool false] 148)).setRow w6.heap.size #[.bool r1, .bool r2, .bool r3] = w8 at hr8 hb8 ⊢
    have c0 : w8.cell? ⟨w6.heap.size, 0, none⟩ = some (.bool r1) := arr_cell hr8
    have c1 : w8.cell? ⟨w6.heap.size, 1, none⟩ = some (.bool r2) := arr_cell hr8
    have c2 : w8.cell? ⟨w6.heap.size, 2, none⟩ = some (.bool r3) := arr_cell hr8
    have hB8 := hB6.trans (hb8.mono hB6.size)
    clear hm7 hn hb7 hr8 hb8 hz
    have h3 : (c < -1 ∨ 1 < c) ∨ (c = -1 ∨ c = 0 ∨ c = 1) := by omega
    rcases h3 with (h3 | h3) | (rfl | rfl | rfl)
    · have h4 : ¬ -1 ≤ c := by omega
      have HV : Hid (icB s c = r1) := by unfold Hid; rw [HC.out, icPick, if_pos (by omega)]
      clear HC
      go_wp2
      go_ret2
      exact ⟨by rw [HV.out, HW.out]; rfl, hB8⟩
    · have h4 : -1 ≤ c := by omega
      have h5 : ¬ c ≤ 1 := by omega
      have HV : Hid (icB s c = r3) := by unfold Hid; rw [HC.out, icPick, if_neg (by omega), if_neg (by omega)]
      clear HC
      go_wp2
      go_ret2
      exact ⟨by rw [HV.out, HW.out]; rfl, hB8⟩
    · have HV : Hid (icB s (-1) = r1) := by unfold Hid; rw [HC.out]; rfl
      clear HC
      go_wp2
      go_ret2
      exact ⟨by rw [HV.out, HW.out]; rfl, hB8⟩
    · have HV : Hid (icB s 0 = r2) := by unfold Hid; rw [HC.out]; rfl
      clear HC
      go_wp2
      go_ret2
      exact ⟨by rw [HV.out, HW.out]; rfl, hB8⟩
    · have HV : Hid (icB s 1 = r3) := by unfold Hid; rw [HC.out]; rfl
      clear HC
      go_wp2
      go_ret2
      exact ⟨by rw [HV.out, HW.out]; rfl, hB8⟩

set_option maxHeartbeats 1000000 in
theorem compares_any (w : World) (s : ByteArray) :
    Calls Tryz.prog 140 #[.string s] w fun e w' => e = .returned (.bool (icOk s)) ∧ Below w.heap.size w w' := by
  have cC := icompare_any w s 0
  go_enter Tryz.func140, Tryz.ntmps140
  go_wp2_with (go_at_call 101; refine cC.mono ?_; rintro e w5 ⟨rfl, hb5⟩)
  go_ret
  exact ⟨rfl, hb5⟩
end Go.Proofs.YtlhobpknflobgaaGreatDoor
