/-
  The reference's patterns: pleachref07.Word, Atom, leaf, pattern, Pattern. Conditions: the tree lies as 'TrV' says.
-/
import Derived.Test.YtjnmdbfijdnaiaaGreatDoorAst4
namespace Go.Proofs.YtjnmdbfijdnaiaaGreatDoor
open Go.RowKit

/-- The grammar's own words. -/
def words13 : List (List UInt8) := [[97, 102, 116, 101, 114], [99, 97, 115, 101], [99, 97, 116, 99, 104], [99, 111, 110, 102, 105, 103], [100, 105, 118], [101, 110, 100], [102, 117, 110], [109, 111, 100, 117, 108, 101], [111, 102], [114, 101, 99, 101, 105, 118, 101], [114, 101, 109], [116, 114, 121], [119, 104, 101, 110]]
def wordK (s : ByteArray) : Bool := words13.any fun u => s.toList == u
def atomN (s : ByteArray) : Bool := mayA s && !wordK s

set_option maxHeartbeats 2000000 in
set_option maxRecDepth 100000 in
theorem word_any (w : World) (s : ByteArray) :
    Calls Tryz.prog 101 #[.string s] w fun e w' => e = .returned (.bool (wordK s)) ∧ w = w' := by
  go_enter Tryz.func101, Tryz.ntmps101
  go_wp2
  all_goals
    go_ret
    exact ⟨ret_bool (by simp_all [wordK, words13]), rfl⟩

set_option maxHeartbeats 1000000 in
theorem natom_any (w : World) (s : ByteArray) (hs : s.size ≤ 140737488355328) :
    Calls Tryz.prog 86 #[.string s] w fun e w' => e = .returned (.bool (atomN s)) ∧ w = w' := by
  have cM := rmay_any w s hs
  have cW := word_any w s
  unfold atomN
  cases hm : mayA s
  · rw [hm] at cM
    clear hm
    go_enter Tryz.func86, Tryz.ntmps86
    go_wp2_with (go_at_call 88; refine cM.mono ?_; rintro e w' ⟨rfl, rfl⟩)
    go_ret
    exact ⟨rfl, rfl⟩
  · rw [hm] at cM
    clear hm
    generalize wordK s = q at cW
    go_enter Tryz.func86, Tryz.ntmps86
    go_wp2_with (first | (go_at_call 88; refine cM.mono ?_; rintro e w' ⟨rfl, rfl⟩) | (go_at_call 101; refine cW.mono ?_; rintro e w' ⟨rfl, rfl⟩))
    go_ret
    exact ⟨by simp, rfl⟩

/-- Is a tree a leaf that may be? -/
def leafB (x : Tr) : Bool :=
  if x.k = 5 then bareB x false true false false && nameA x.s
  else if x.k = 6 then bareB x true false false false && mayI x.n
  else if x.k = 7 then bareB x false true false false && atomN x.s
  else if x.k = 8 then bareB x false false false false
  else false

set_option maxHeartbeats 4000000 in
set_option maxRecDepth 100000 in
theorem leaf_any (w : World) (x : Tr) (p : Option Addr) (c : Nat) (hw : NodeWf x) :
    Calls Tryz.prog 66 #[.agg #[.int .i8 x.k, .int .i64 x.n, .string x.s, .string x.t, .slice p x.l.length c]] w fun e w' => e = .returned (.bool (leafB x)) ∧ Below w.heap.size w w' := by
  obtain ⟨e0, e1, e2, e3, e4⟩ := box5 w (.int .i8 x.k) (.int .i64 x.n) (.string x.s) (.string x.t) (.slice p x.l.length c) 25
  have hb0 := alloc_below w (.cells #[.int .i8 x.k, .int .i64 x.n, .string x.s, .string x.t, .slice p x.l.length c] 25)
  have cB := fun W => rbareN_any W x p c
  have hS := wf_s hw
  have cN := fun (W : World) => nname_any W x.s hS
  have cA := fun (W : World) => natom_any W x.s hS
  clear hw
  by_cases h5 : x.k = 5
  · rw [h5] at cB
    cases hb : bareB x false true false false
    · have HV : Hid (leafB x = (false)) := by unfold Hid leafB; simp [h5, hb]
      have HB := Lib.hid hb
      rw [h5] at e0 hb0 e1 e2 e3 e4 ⊢
      clear hb h5
      go_enter Tryz.func66, Tryz.ntmps66
      go_wp2_with (first | (go_at_call 67; refine (cB _ _ _ _ _).mono ?_; rintro e w1 ⟨rfl, hb1⟩; rw [HB.out]; have e1 := (hb1.cell (p := ⟨w.heap.size, 1, none⟩) (cell_block e1)).trans e1; have e2 := (hb1.cell (p := ⟨w.heap.size, 2, none⟩) (cell_block e2)).trans e2))
      go_ret
      exact ⟨by rw [HV.out]; rfl, hb0.trans (hb1.mono hb0.size)⟩
    · have HV : Hid (leafB x = (nameA x.s)) := by unfold Hid leafB; simp [h5, hb]
      have HB := Lib.hid hb
      rw [h5] at e0 hb0 e1 e2 e3 e4 ⊢
      clear hb h5
      go_enter Tryz.func66, Tryz.ntmps66
      go_wp2_with (first | (go_at_call 67; refine (cB _ _ _ _ _).mono ?_; rintro e w1 ⟨rfl, hb1⟩; rw [HB.out]; have e1 := (hb1.cell (p := ⟨w.heap.size, 1, none⟩) (cell_block e1)).trans e1; have e2 := (hb1.cell (p := ⟨w.heap.size, 2, none⟩) (cell_block e2)).trans e2) | (go_at_call 84; refine (cN _).mono ?_; rintro e w' ⟨rfl, rfl⟩))
      go_ret
      exact ⟨by rw [HV.out]; rfl, hb0.trans (hb1.mono hb0.size)⟩
  by_cases h6 : x.k = 6
  · rw [h6] at cB
    cases hb : bareB x true false false false
    · have HV : Hid (leafB x = (false)) := by unfold Hid leafB; simp [h6, hb]
      have HB := Lib.hid hb
      rw [h6] at e0 hb0 e1 e2 e3 e4 ⊢
      clear hb h5 h6
      go_enter Tryz.func66, Tryz.ntmps66
      go_wp2_with (first | (go_at_call 67; refine (cB _ _ _ _ _).mono ?_; rintro e w1 ⟨rfl, hb1⟩; rw [HB.out]; have e1 := (hb1.cell (p := ⟨w.heap.size, 1, none⟩) (cell_block e1)).trans e1; have e2 := (hb1.cell (p := ⟨w.heap.size, 2, none⟩) (cell_block e2)).trans e2))
      go_ret
      exact ⟨by rw [HV.out]; rfl, hb0.trans (hb1.mono hb0.size)⟩
    · have HV : Hid (leafB x = (mayI x.n)) := by unfold Hid leafB; simp [h6, hb]
      have HB := Lib.hid hb
      rw [h6] at e0 hb0 e1 e2 e3 e4 ⊢
      clear hb h5 h6
      go_enter Tryz.func66, Tryz.ntmps66
      go_wp2_with (first | (go_at_call 67; refine (cB _ _ _ _ _).mono ?_; rintro e w1 ⟨rfl, hb1⟩; rw [HB.out]; have e1 := (hb1.cell (p := ⟨w.heap.size, 1, none⟩) (cell_block e1)).trans e1; have e2 := (hb1.cell (p := ⟨w.heap.size, 2, none⟩) (cell_block e2)).trans e2) | (go_at_call 85; refine (rintsMay_any _ _).mono ?_; rintro e w' ⟨rfl, rfl⟩))
      go_ret
      exact ⟨by rw [HV.out]; rfl, hb0.trans (hb1.mono hb0.size)⟩
  by_cases h7 : x.k = 7
  · rw [h7] at cB
    cases hb : bareB x false true false false
    · have HV : Hid (leafB x = (false)) := by unfold Hid leafB; simp [h7, hb]
      have HB := Lib.hid hb
      rw [h7] at e0 hb0 e1 e2 e3 e4 ⊢
      clear hb h5 h6 h7
      go_enter Tryz.func66, Tryz.ntmps66
      go_wp2_with (first | (go_at_call 67; refine (cB _ _ _ _ _).mono ?_; rintro e w1 ⟨rfl, hb1⟩; rw [HB.out]; have e1 := (hb1.cell (p := ⟨w.heap.size, 1, none⟩) (cell_block e1)).trans e1; have e2 := (hb1.cell (p := ⟨w.heap.size, 2, none⟩) (cell_block e2)).trans e2))
      go_ret
      exact ⟨by rw [HV.out]; rfl, hb0.trans (hb1.mono hb0.size)⟩
    · have HV : Hid (leafB x = (atomN x.s)) := by unfold Hid leafB; simp [h7, hb]
      have HB := Lib.hid hb
      rw [h7] at e0 hb0 e1 e2 e3 e4 ⊢
      clear hb h5 h6 h7
      go_enter Tryz.func66, Tryz.ntmps66
      go_wp2_with (first | (go_at_call 67; refine (cB _ _ _ _ _).mono ?_; rintro e w1 ⟨rfl, hb1⟩; rw [HB.out]; have e1 := (hb1.cell (p := ⟨w.heap.size, 1, none⟩) (cell_block e1)).trans e1; have e2 := (hb1.cell (p := ⟨w.heap.size, 2, none⟩) (cell_block e2)).trans e2) | (go_at_call 86; refine (cA _).mono ?_; rintro e w' ⟨rfl, rfl⟩))
      go_ret
      exact ⟨by rw [HV.out]; rfl, hb0.trans (hb1.mono hb0.size)⟩
  by_cases h8 : x.k = 8
  · rw [h8] at cB
    cases hb : bareB x false false false false
    · have HV : Hid (leafB x = (false)) := by unfold Hid leafB; simp [h8, hb]
      have HB := Lib.hid hb
      rw [h8] at e0 hb0 e1 e2 e3 e4 ⊢
      clear hb h5 h6 h7 h8
      go_enter Tryz.func66, Tryz.ntmps66
      go_wp2_with (first | (go_at_call 67; refine (cB _ _ _ _ _).mono ?_; rintro e w1 ⟨rfl, hb1⟩; rw [HB.out]; have e1 := (hb1.cell (p := ⟨w.heap.size, 1, none⟩) (cell_block e1)).trans e1; have e2 := (hb1.cell (p := ⟨w.heap.size, 2, none⟩) (cell_block e2)).trans e2))
      go_ret
      exact ⟨by rw [HV.out]; rfl, hb0.trans (hb1.mono hb0.size)⟩
    · have HV : Hid (leafB x = (true)) := by unfold Hid leafB; simp [h8, hb]
      have HB := Lib.hid hb
      rw [h8] at e0 hb0 e1 e2 e3 e4 ⊢
      clear hb h5 h6 h7 h8
      go_enter Tryz.func66, Tryz.ntmps66
      go_wp2_with (first | (go_at_call 67; refine (cB _ _ _ _ _).mono ?_; rintro e w1 ⟨rfl, hb1⟩; rw [HB.out]; have e1 := (hb1.cell (p := ⟨w.heap.size, 1, none⟩) (cell_block e1)).trans e1; have e2 := (hb1.cell (p := ⟨w.heap.size, 2, none⟩) (cell_block e2)).trans e2))
      go_ret
      exact ⟨by rw [HV.out]; rfl, hb0.trans (hb1.mono hb0.size)⟩
  have HV : Hid (leafB x = false) := by
    unfold Hid leafB; simp [h5, h6, h7, h8]
  have g5 : (x.k == 5) = false := by simpa using h5
  have g6 : (x.k == 6) = false := by simpa using h6
  have g7 : (x.k == 7) = false := by simpa using h7
  have g8 : (x.k == 8) = false := by simpa using h8
  clear h5 h6 h7 h8
  go_enter Tryz.func66, Tryz.ntmps66
  go_wp2
  go_ret
  exact ⟨by rw [HV.out]; rfl, hb0⟩

/-- May a tree be a pattern (its size is not looked at)? -/
def Tr.pat : Tr → Bool
  | .mk k n s t l => leafB (.mk k n s t l) || ((k == 10 || (k == 9 && (l.length : Int) == 2)) && bareB (.mk k n s t l) false false false true && patl l)
where patl : List Tr → Bool
  | [] => true
  | x :: r => x.pat && patl r
theorem pat_eq (x : Tr) : x.pat = (leafB x || ((x.k == 10 || (x.k == 9 && (x.l.length : Int) == 2)) && bareB x false false false true && Tr.pat.patl x.l)) := by cases x; rfl
theorem patl_take {l : List Tr} {k : Nat} (h1 : k < l.length) : Tr.pat.patl (l.drop k) = (l[k].pat && Tr.pat.patl (l.drop (k + 1))) := by
  rw [List.drop_eq_getElem_cons h1, Tr.pat.patl]
end Go.Proofs.YtjnmdbfijdnaiaaGreatDoor
