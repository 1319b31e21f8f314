/-
  ints.over, ways; ints.Do at +, -, *. Conditions: as said.
-/
import Derived.Test.YtlhobpknflobgaaGreatDoorGv2
namespace Go.Proofs.YtlhobpknflobgaaGreatDoor
open Go.RowKit

def fnV (n : FuncId) : Value := .func (Fn.func n) #[] #[]
def ovV (b : Nat) : Value := .func (Fn.func 213) #[] #[.pointer (some ⟨b, 0, none⟩)]
def wayEs (b1 b2 : Nat) : Array MapEntry := #[{ key := .string ⟨#[43]⟩, val := .func (Fn.func 188) #[] #[], born := 0 }, { key := .string ⟨#[45]⟩, val := .func (Fn.func 189) #[] #[], born := 1 }, { key := .string ⟨#[42]⟩, val := .func (Fn.func 190) #[] #[], born := 2 }, { key := .string ⟨#[100, 105, 118]⟩, val := ovV b1, born := 3 }, { key := .string ⟨#[114, 101, 109]⟩, val := ovV b2, born := 4 }]
def OvSays (w : World) (e : Ending) (w' : World) : Prop := e = .returned (ovV w.heap.size) ∧ Below w.heap.size w w'
def WySays (w : World) (e : Ending) (w' : World) : Prop := ∃ b1 b2, e = .returned (.map (some w.heap.size)) ∧ w'.heap[w.heap.size]? = some (.map (wayEs b1 b2) 5) ∧ Below w.heap.size w w'
set_option maxHeartbeats 1000000 in
theorem over3_any (w : World) : Calls Tryz.prog 191 #[.func (Fn.func 192) #[] #[]] w (OvSays w) := by
  have hb := alloc_below w (.cells #[.func (Fn.func 192) #[] #[]] 192)
  go_enter Tryz.func191, Tryz.ntmps191
  go_wp2
  go_ret
  exact ⟨rfl, hb⟩
set_option maxHeartbeats 1000000 in
theorem over4_any (w : World) : Calls Tryz.prog 191 #[.func (Fn.func 193) #[] #[]] w (OvSays w) := by
  have hb := alloc_below w (.cells #[.func (Fn.func 193) #[] #[]] 192)
  go_enter Tryz.func191, Tryz.ntmps191
  go_wp2
  go_ret
  exact ⟨rfl, hb⟩

set_option maxHeartbeats 4000000 in
set_option maxRecDepth 100000 in
theorem ways_any (w : World) : Calls Tryz.prog 153 #[] w (WySays w) := by
  have hmk := fun (W : World) => run_mk (P := Tryz.prog) W 158
  have hm0 : (w.alloc (.map #[] 0)).heap[w.heap.size]? = some (.map #[] 0) := heap_new w _
  have hb0 := alloc_below w (.map #[] 0)
  have tok : True := trivial
  go_enter Tryz.func153, Tryz.ntmps153
  go_wp2_with (first
    | (refine wpList_insert_new rfl (.tmp 1) (.const (.string ⟨#[43]⟩)) (.func 188) 158 rfl _ _ Tryz.underlying158 Tryz.underlying9 w.heap.size _ _ rfl hm0 _ (.func (Fn.func 188) #[] #[]) rfl rfl (by kernel_rfl) w.heap.size (Nat.le_refl _) ?_; intro w1 hm1 hb1)
    | (refine wpList_insert_new rfl (.tmp 1) (.const (.string ⟨#[45]⟩)) (.func 189) 158 rfl _ _ Tryz.underlying158 Tryz.underlying9 w.heap.size _ _ rfl hm1 _ (.func (Fn.func 189) #[] #[]) rfl rfl (by kernel_rfl) w.heap.size (Nat.le_refl _) ?_; intro w2 hm2 hb2)
    | (refine wpList_insert_new rfl (.tmp 1) (.const (.string ⟨#[42]⟩)) (.func 190) 158 rfl _ _ Tryz.underlying158 Tryz.underlying9 w.heap.size _ _ rfl hm2 _ (.func (Fn.func 190) #[] #[]) rfl rfl (by kernel_rfl) w.heap.size (Nat.le_refl _) ?_; intro w3 hm3 hb3)
    | (go_at_call 191; refine (over3_any w3).mono ?_; rintro e w4 ⟨rfl, hb4⟩; have hm4 := (hb4.block _ (Array.getElem?_eq_some_iff.1 hm3).1).trans hm3)
    | (refine wpList_insert_new rfl (.tmp 1) (.const (.string ⟨#[100, 105, 118]⟩)) (.tmp 2) 158 rfl _ _ Tryz.underlying158 Tryz.underlying9 w.heap.size _ _ rfl hm4 _ (ovV w3.heap.size) rfl rfl (by kernel_rfl) w.heap.size (Nat.le_refl _) ?_; intro w5 hm5 hb5)
    | (go_at_call 191; refine (over4_any w5).mono ?_; rintro e w6 ⟨rfl, hb6⟩; have hm6 := (hb6.block _ (Array.getElem?_eq_some_iff.1 hm5).1).trans hm5)
    | (refine wpList_insert_new rfl (.tmp 1) (.const (.string ⟨#[114, 101, 109]⟩)) (.tmp 3) 158 rfl _ _ Tryz.underlying158 Tryz.underlying9 w.heap.size _ _ rfl hm6 _ (ovV w5.heap.size) rfl rfl (by kernel_rfl) w.heap.size (Nat.le_refl _) ?_; intro w7 hm7 hb7))
  have hz3 : w.heap.size ≤ w3.heap.size := Nat.le_of_lt (Array.getElem?_eq_some_iff.1 hm3).1
  have hz5 : w.heap.size ≤ w5.heap.size := Nat.le_of_lt (Array.getElem?_eq_some_iff.1 hm5).1
  have hB := (hb0.trans ((hb1.trans hb2).trans hb3)).trans (((hb4.mono hz3).trans hb5).trans ((hb6.mono hz5).trans hb7))
  go_ret
  exact ⟨w3.heap.size, w5.heap.size, rfl, hm7, hB⟩

/-- What an operation comes to. -/
def doS (s : ByteArray) (a b : Int) : Int := if s.toList == [43] then a + b else if s.toList == [45] then a - b else a * b
def DoSays (n er : Int) (w : World) (e : Ending) (w' : World) : Prop := e = .returned (.tuple #[.int .i64 (if er = 0 then (if mayI n = true then n else 0) else 0), .int .i64 (if er = 0 then (if mayI n = true then 0 else 11) else er)]) ∧ Below w.heap.size w w'
theorem may_nat {a : Int} (h : mayI a = true) : -576460752303423488 ≤ a ∧ a ≤ 576460752303423487 := by simpa [mayI] using h

theorem findP (s : ByteArray) (b1 b2 : Nat) (h : s.toList = [43]) : Instr.findNow .string (.string s) (wayEs b1 b2).toList 0 = some (some (0, .func (Fn.func 188) #[] #[])) := by
  have h' : s.data.toList = [43] := by rw [← ByteArray.toList_eq]; exact h
  simp [wayEs, findNow_cons, ByteArray.toList_eq, h']
set_option maxHeartbeats 4000000 in
set_option maxRecDepth 100000 in
theorem doP_any {w : World} {s : ByteArray} {a b n er : Int} (h : s.toList = [43]) (ha : mayI a = true) (hb : mayI b = true)
    (cF : ∀ W : World, Calls Tryz.prog 188 #[.int .i64 a, .int .i64 b] W fun e w' => e = .returned (.tuple #[.int .i64 n, .int .i64 er]) ∧ W = w') :
    Calls Tryz.prog 113 #[.string s, .int .i64 a, .int .i64 b] w (DoSays n er w) := by
  have cW := ways_any w
  have cA := fun (W : World) => intsMay_any W a
  have cB := fun (W : World) => intsMay_any W b
  have cN := fun (W : World) => intsMay_any W n
  rw [ha] at cA
  rw [hb] at cB
  have HF := Lib.hid (fun b1 b2 => findP s b1 b2 h)
  have tok : True := trivial
  have tok2 : True := trivial
  clear ha hb h
  unfold DoSays
  by_cases he : er = 0
  · subst he
    cases hn : mayI n
    all_goals
      rw [hn] at cN
      clear hn
      go_enter Tryz.func113, Tryz.ntmps113
      go_wp2_with (first
        | (go_at_call 153; refine cW.mono ?_; rintro e w5 ⟨b1, b2, rfl, hm5, hb5⟩; have hf := HF.out b1 b2)
        | (refine wpList_lookup_hit rfl (.tmp 13) (.tmp 14) 158 rfl _ _ Tryz.underlying158 Tryz.underlying9 w.heap.size _ _ rfl hm5 s rfl _ _ hf ?_; clear hf hm5)
        | (go_at_call 154; have _t := tok; refine (cA _).mono ?_; rintro e w' ⟨rfl, rfl⟩; clear tok)
        | (go_at_call 154; have _t := tok2; refine (cB _).mono ?_; rintro e w' ⟨rfl, rfl⟩; clear tok2)
        | (go_at_call 188; refine (cF _).mono ?_; rintro e w' ⟨rfl, rfl⟩)
        | (go_at_call 154; refine (cN _).mono ?_; rintro e w' ⟨rfl, rfl⟩))
      go_ret2
      exact ⟨rfl, hb5⟩
  · have he2 : (er != 0) = true := by simpa using he
    simp only [if_neg he]
    clear he
    go_enter Tryz.func113, Tryz.ntmps113
    go_wp2_with (first
      | (go_at_call 153; refine cW.mono ?_; rintro e w5 ⟨b1, b2, rfl, hm5, hb5⟩; have hf := HF.out b1 b2)
      | (refine wpList_lookup_hit rfl (.tmp 13) (.tmp 14) 158 rfl _ _ Tryz.underlying158 Tryz.underlying9 w.heap.size _ _ rfl hm5 s rfl _ _ hf ?_; clear hf hm5)
      | (go_at_call 154; have _t := tok; refine (cA _).mono ?_; rintro e w' ⟨rfl, rfl⟩; clear tok)
      | (go_at_call 154; have _t := tok2; refine (cB _).mono ?_; rintro e w' ⟨rfl, rfl⟩; clear tok2)
      | (go_at_call 188; refine (cF _).mono ?_; rintro e w' ⟨rfl, rfl⟩))
    go_ret2
    exact ⟨rfl, hb5⟩

theorem findM (s : ByteArray) (b1 b2 : Nat) (h : s.toList = [45]) : Instr.findNow .string (.string s) (wayEs b1 b2).toList 0 = some (some (1, .func (Fn.func 189) #[] #[])) := by
  have h' : s.data.toList = [45] := by rw [← ByteArray.toList_eq]; exact h
  simp [wayEs, findNow_cons, ByteArray.toList_eq, h']
set_option maxHeartbeats 4000000 in
set_option maxRecDepth 100000 in
theorem doM_any {w : World} {s : ByteArray} {a b n er : Int} (h : s.toList = [45]) (ha : mayI a = true) (hb : mayI b = true)
    (cF : ∀ W : World, Calls Tryz.prog 189 #[.int .i64 a, .int .i64 b] W fun e w' => e = .returned (.tuple #[.int .i64 n, .int .i64 er]) ∧ W = w') :
    Calls Tryz.prog 113 #[.string s, .int .i64 a, .int .i64 b] w (DoSays n er w) := by
  have cW := ways_any w
  have cA := fun (W : World) => intsMay_any W a
  have cB := fun (W : World) => intsMay_any W b
  have cN := fun (W : World) => intsMay_any W n
  rw [ha] at cA
  rw [hb] at cB
  have HF := Lib.hid (fun b1 b2 => findM s b1 b2 h)
  have tok : True := trivial
  have tok2 : True := trivial
  clear ha hb h
  unfold DoSays
  by_cases he : er = 0
  · subst he
    cases hn : mayI n
    all_goals
      rw [hn] at cN
      clear hn
      go_enter Tryz.func113, Tryz.ntmps113
      go_wp2_with (first
        | (go_at_call 153; refine cW.mono ?_; rintro e w5 ⟨b1, b2, rfl, hm5, hb5⟩; have hf := HF.out b1 b2)
        | (refine wpList_lookup_hit rfl (.tmp 13) (.tmp 14) 158 rfl _ _ Tryz.underlying158 Tryz.underlying9 w.heap.size _ _ rfl hm5 s rfl _ _ hf ?_; clear hf hm5)
        | (go_at_call 154; have _t := tok; refine (cA _).mono ?_; rintro e w' ⟨rfl, rfl⟩; clear tok)
        | (go_at_call 154; have _t := tok2; refine (cB _).mono ?_; rintro e w' ⟨rfl, rfl⟩; clear tok2)
        | (go_at_call 189; refine (cF _).mono ?_; rintro e w' ⟨rfl, rfl⟩)
        | (go_at_call 154; refine (cN _).mono ?_; rintro e w' ⟨rfl, rfl⟩))
      go_ret2
      exact ⟨rfl, hb5⟩
  · have he2 : (er != 0) = true := by simpa using he
    simp only [if_neg he]
    clear he
    go_enter Tryz.func113, Tryz.ntmps113
    go_wp2_with (first
      | (go_at_call 153; refine cW.mono ?_; rintro e w5 ⟨b1, b2, rfl, hm5, hb5⟩; have hf := HF.out b1 b2)
      | (refine wpList_lookup_hit rfl (.tmp 13) (.tmp 14) 158 rfl _ _ Tryz.underlying158 Tryz.underlying9 w.heap.size _ _ rfl hm5 s rfl _ _ hf ?_; clear hf hm5)
      | (go_at_call 154; have _t := tok; refine (cA _).mono ?_; rintro e w' ⟨rfl, rfl⟩; clear tok)
      | (go_at_call 154; have _t := tok2; refine (cB _).mono ?_; rintro e w' ⟨rfl, rfl⟩; clear tok2)
      | (go_at_call 189; refine (cF _).mono ?_; rintro e w' ⟨rfl, rfl⟩))
    go_ret2
    exact ⟨rfl, hb5⟩

theorem findT (s : ByteArray) (b1 b2 : Nat) (h : s.toList = [42]) : Instr.findNow .string (.string s) (wayEs b1 b2).toList 0 = some (some (2, .func (Fn.func 190) #[] #[])) := by
  have h' : s.data.toList = [42] := by rw [← ByteArray.toList_eq]; exact h
  simp [wayEs, findNow_cons, ByteArray.toList_eq, h']
set_option maxHeartbeats 4000000 in
set_option maxRecDepth 100000 in
theorem doT_any {w : World} {s : ByteArray} {a b n er : Int} (h : s.toList = [42]) (ha : mayI a = true) (hb : mayI b = true)
    (cF : ∀ W : World, Calls Tryz.prog 190 #[.int .i64 a, .int .i64 b] W fun e w' => e = .returned (.tuple #[.int .i64 n, .int .i64 er]) ∧ W = w') :
    Calls Tryz.prog 113 #[.string s, .int .i64 a, .int .i64 b] w (DoSays n er w) := by
  have cW := ways_any w
  have cA := fun (W : World) => intsMay_any W a
  have cB := fun (W : World) => intsMay_any W b
  have cN := fun (W : World) => intsMay_any W n
  rw [ha] at cA
  rw [hb] at cB
  have HF := Lib.hid (fun b1 b2 => findT s b1 b2 h)
  have tok : True := trivial
  have tok2 : True := trivial
  clear ha hb h
  unfold DoSays
  by_cases he : er = 0
  · subst he
    cases hn : mayI n
    all_goals
      rw [hn] at cN
      clear hn
      go_enter Tryz.func113, Tryz.ntmps113
      go_wp2_with (first
        | (go_at_call 153; refine cW.mono ?_; rintro e w5 ⟨b1, b2, rfl, hm5, hb5⟩; have hf := HF.out b1 b2)
        | (refine wpList_lookup_hit rfl (.tmp 13) (.tmp 14) 158 rfl _ _ Tryz.underlying158 Tryz.underlying9 w.heap.size _ _ rfl hm5 s rfl _ _ hf ?_; clear hf hm5)
        | (go_at_call 154; have _t := tok; refine (cA _).mono ?_; rintro e w' ⟨rfl, rfl⟩; clear tok)
        | (go_at_call 154; have _t := tok2; refine (cB _).mono ?_; rintro e w' ⟨rfl, rfl⟩; clear tok2)
        | (go_at_call 190; refine (cF _).mono ?_; rintro e w' ⟨rfl, rfl⟩)
        | (go_at_call 154; refine (cN _).mono ?_; rintro e w' ⟨rfl, rfl⟩))
      go_ret2
      exact ⟨rfl, hb5⟩
  · have he2 : (er != 0) = true := by simpa using he
    simp only [if_neg he]
    clear he
    go_enter Tryz.func113, Tryz.ntmps113
    go_wp2_with (first
      | (go_at_call 153; refine cW.mono ?_; rintro e w5 ⟨b1, b2, rfl, hm5, hb5⟩; have hf := HF.out b1 b2)
      | (refine wpList_lookup_hit rfl (.tmp 13) (.tmp 14) 158 rfl _ _ Tryz.underlying158 Tryz.underlying9 w.heap.size _ _ rfl hm5 s rfl _ _ hf ?_; clear hf hm5)
      | (go_at_call 154; have _t := tok; refine (cA _).mono ?_; rintro e w' ⟨rfl, rfl⟩; clear tok)
      | (go_at_call 154; have _t := tok2; refine (cB _).mono ?_; rintro e w' ⟨rfl, rfl⟩; clear tok2)
      | (go_at_call 190; refine (cF _).mono ?_; rintro e w' ⟨rfl, rfl⟩))
    go_ret2
    exact ⟨rfl, hb5⟩

set_option maxHeartbeats 1000000 in
theorem plus_any (w : World) (a b : Int) (ha : mayI a = true) (hb : mayI b = true) : Calls Tryz.prog 188 #[.int .i64 a, .int .i64 b] w fun e w' => e = .returned (.tuple #[.int .i64 (a + b), .int .i64 0]) ∧ w = w' := by
  obtain ⟨h1, h2⟩ := may_nat ha
  obtain ⟨h3, h4⟩ := may_nat hb
  clear ha hb
  go_enter Tryz.func188, Tryz.ntmps188
  go_wp2
  go_ret2
  exact ⟨rfl, rfl⟩
set_option maxHeartbeats 1000000 in
theorem minus_any (w : World) (a b : Int) (ha : mayI a = true) (hb : mayI b = true) : Calls Tryz.prog 189 #[.int .i64 a, .int .i64 b] w fun e w' => e = .returned (.tuple #[.int .i64 (a - b), .int .i64 0]) ∧ w = w' := by
  obtain ⟨h1, h2⟩ := may_nat ha
  obtain ⟨h3, h4⟩ := may_nat hb
  clear ha hb
  go_enter Tryz.func189, Tryz.ntmps189
  go_wp2
  go_ret2
  exact ⟨rfl, rfl⟩

/-- What an operation tells that may stand in a guard. -/
def DoPost (s : ByteArray) (a b : Int) (w : World) (e : Ending) (w' : World) : Prop := ∃ n er : Int, e = .returned (.tuple #[.int .i64 n, .int .i64 er]) ∧ Below w.heap.size w w' ∧ ((mayI (doS s a b) = true ∧ n = doS s a b ∧ er = 0) ∨ (mayI (doS s a b) = false ∧ n = 0 ∧ er = 11))
theorem do_any {w : World} {s : ByteArray} {a b : Int} (h : arS s = true) (ha : mayI a = true) (hb : mayI b = true) :
    Calls Tryz.prog 113 #[.string s, .int .i64 a, .int .i64 b] w (DoPost s a b w) := by
  have hcase : s.toList = [43] ∨ s.toList = [45] ∨ s.toList = [42] := by simpa [arS] using h
  have fin : ∀ (n : Int) (e : Ending) (w' : World), doS s a b = n → DoSays n 0 w e w' → DoPost s a b w e w' := by
    rintro n e w' hn ⟨h1, h2⟩
    subst hn
    cases hm : mayI (doS s a b)
    · exact ⟨0, 11, by rw [h1]; simp [hm], h2, .inr ⟨hm, rfl, rfl⟩⟩
    · exact ⟨doS s a b, 0, by rw [h1]; simp [hm], h2, .inl ⟨hm, rfl, rfl⟩⟩
  rcases hcase with hs | hs | hs
  · exact (doP_any hs ha hb fun W => plus_any W a b ha hb).mono fun e w' h => fin _ e w' (by simp [doS, hs]) h
  · exact (doM_any hs ha hb fun W => minus_any W a b ha hb).mono fun e w' h => fin _ e w' (by simp [doS, hs]) h
  · have hd : doS s a b = a * b := by simp [doS, hs]
    have hT := fun (W : World) => times_any a b W (by have := may_nat ha; omega) (by have := may_nat hb; omega)
    unfold TmSays at hT
    by_cases hp : (a * b).natAbs ≤ 576460752303423488
    · simp only [if_pos hp] at hT
      exact (doT_any hs ha hb hT).mono fun e w' h => fin _ e w' hd h
    · simp only [if_neg hp] at hT
      refine (doT_any hs ha hb hT).mono fun e w' ⟨h1, h2⟩ => ⟨0, 11, h1, h2, .inr ⟨?_, rfl, rfl⟩⟩
      rw [hd]
      cases hm : mayI (a * b)
      · rfl
      · have := may_nat hm; omega
end Go.Proofs.YtlhobpknflobgaaGreatDoor
