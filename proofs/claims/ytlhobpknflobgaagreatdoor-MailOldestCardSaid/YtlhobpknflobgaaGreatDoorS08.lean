/-
  The reference's patterns: pleachref07.Word, Atom, leaf, pattern, Pattern. Conditions: the tree lies as 'TrV' says.
  The reference's patterns: pleachref07.pattern, Pattern. Conditions: the tree lies as 'TrV' says.
  The program's names and words of trees: ast.name, atom; strings.ContainsFunc at name's predicate; slices.Contains at strings. Conditions: a text is not longer than memory lets.
  ast.name, ast.atom. Conditions: the letters lie as 'Letters' says; a text is not longer than memory lets.
-/
import Derived.Test.YtlhobpknflobgaaGreatDoorS07
import Derived.Laws.RangeAny
namespace Go.Proofs.YtlhobpknflobgaaGreatDoor
open Go.RowKit

/-- The grammar's own words. -/
def words13 : List (List UInt8) := [[97, 102, 116, 101, 114], [99, 97, 115, 101], [99, 97, 116, 99, 104], [99, 111, 110, 102, 105, 103], [100, 105, 118], [101, 110, 100], [102, 117, 110], [109, 111, 100, 117, 108, 101], [111, 102], [114, 101, 99, 101, 105, 118, 101], [114, 101, 109], [116, 114, 121], [119, 104, 101, 110]]
def wordK (s : ByteArray) : Bool := words13.any fun u => s.toList == u
def atomN (s : ByteArray) : Bool := mayA s && !wordK s

set_option maxHeartbeats 2000000 in
set_option maxRecDepth 100000 in
theorem word_any (w : World) (s : ByteArray) :
    Calls Tryz.prog 214 #[.string s] w fun e w' => e = .returned (.bool (wordK s)) ∧ w = w' := by
  go_enter Tryz.func214, Tryz.ntmps214
  go_wp2
  all_goals
    go_ret
    exact ⟨ret_bool (by simp_all [wordK, words13]), rfl⟩

set_option maxHeartbeats 1000000 in
theorem natom_any (w : World) (s : ByteArray) (hs : s.size ≤ 140737488355328) :
    Calls Tryz.prog 194 #[.string s] w fun e w' => e = .returned (.bool (atomN s)) ∧ w = w' := by
  have cM := rmay_any w s hs
  have cW := word_any w s
  unfold atomN
  cases hm : mayA s
  · rw [hm] at cM
    clear hm
    go_enter Tryz.func194, Tryz.ntmps194
    go_wp2_with (go_at_call 135; refine cM.mono ?_; rintro e w' ⟨rfl, rfl⟩)
    go_ret
    exact ⟨rfl, rfl⟩
  · rw [hm] at cM
    clear hm
    generalize wordK s = q at cW
    go_enter Tryz.func194, Tryz.ntmps194
    go_wp2_with (first | (go_at_call 135; refine cM.mono ?_; rintro e w' ⟨rfl, rfl⟩) | (go_at_call 214; refine cW.mono ?_; rintro e w' ⟨rfl, rfl⟩))
    go_ret
    exact ⟨by simp, rfl⟩

/-- Is a tree a leaf that may be? -/
def leafB (x : Tr) : Bool :=
  if x.k = 5 then bareB x false true false false && nameA x.s
  else if x.k = 6 then bareB x true false false false && mayI x.n
  else if x.k = 7 then bareB x false true false false && atomN x.s
  else if x.k = 8 then bareB x false false false false
  else false

set_option maxHeartbeats 4000000 in
set_option maxRecDepth 100000 in
theorem leaf_any (w : World) (x : Tr) (p : Option Addr) (c : Nat) (hw : NodeWf x) :
    Calls Tryz.prog 155 #[.agg #[.int .i8 x.k, .int .i64 x.n, .string x.s, .string x.t, .slice p x.l.length c]] w fun e w' => e = .returned (.bool (leafB x)) ∧ Below w.heap.size w w' := by
  obtain ⟨e0, e1, e2, e3, e4⟩ := box5 w (.int .i8 x.k) (.int .i64 x.n) (.string x.s) (.string x.t) (.slice p x.l.length c) 25
  have hb0 := alloc_below w (.cells #[.int .i8 x.k, .int .i64 x.n, .string x.s, .string x.t, .slice p x.l.length c] 25)
  have cB := fun W => rbareN_any W x p c
  have hS := wf_s hw
  have cN := fun (W : World) => nname_any W x.s hS
  have cA := fun (W : World) => natom_any W x.s hS
  clear hw
  by_cases h5 : x.k = 5
  · rw [h5] at cB
    cases hb : bareB x false true false false
    · have HV : Hid (leafB x = (false)) := by unfold Hid leafB; simp [h5, hb]
      have HB := Lib.hid hb
      rw [h5] at e0 hb0 e1 e2 e3 e4 ⊢
      clear hb h5
      go_enter Tryz.func155, Tryz.ntmps155
      go_wp2_with (first | (go_at_call 92; refine (cB _ _ _ _ _).mono ?_; rintro e w1 ⟨rfl, hb1⟩; rw [HB.out]; have e1 := (hb1.cell (p := ⟨w.heap.size, 1, none⟩) (cell_block e1)).trans e1; have e2 := (hb1.cell (p := ⟨w.heap.size, 2, none⟩) (cell_block e2)).trans e2))
      go_ret
      exact ⟨by rw [HV.out]; rfl, hb0.trans (hb1.mono hb0.size)⟩
    · have HV : Hid (leafB x = (nameA x.s)) := by unfold Hid leafB; simp [h5, hb]
      have HB := Lib.hid hb
      rw [h5] at e0 hb0 e1 e2 e3 e4 ⊢
      clear hb h5
      go_enter Tryz.func155, Tryz.ntmps155
      go_wp2_with (first | (go_at_call 92; refine (cB _ _ _ _ _).mono ?_; rintro e w1 ⟨rfl, hb1⟩; rw [HB.out]; have e1 := (hb1.cell (p := ⟨w.heap.size, 1, none⟩) (cell_block e1)).trans e1; have e2 := (hb1.cell (p := ⟨w.heap.size, 2, none⟩) (cell_block e2)).trans e2) | (go_at_call 29; refine (cN _).mono ?_; rintro e w' ⟨rfl, rfl⟩))
      go_ret
      exact ⟨by rw [HV.out]; rfl, hb0.trans (hb1.mono hb0.size)⟩
  by_cases h6 : x.k = 6
  · rw [h6] at cB
    cases hb : bareB x true false false false
    · have HV : Hid (leafB x = (false)) := by unfold Hid leafB; simp [h6, hb]
      have HB := Lib.hid hb
      rw [h6] at e0 hb0 e1 e2 e3 e4 ⊢
      clear hb h5 h6
      go_enter Tryz.func155, Tryz.ntmps155
      go_wp2_with (first | (go_at_call 92; refine (cB _ _ _ _ _).mono ?_; rintro e w1 ⟨rfl, hb1⟩; rw [HB.out]; have e1 := (hb1.cell (p := ⟨w.heap.size, 1, none⟩) (cell_block e1)).trans e1; have e2 := (hb1.cell (p := ⟨w.heap.size, 2, none⟩) (cell_block e2)).trans e2))
      go_ret
      exact ⟨by rw [HV.out]; rfl, hb0.trans (hb1.mono hb0.size)⟩
    · have HV : Hid (leafB x = (mayI x.n)) := by unfold Hid leafB; simp [h6, hb]
      have HB := Lib.hid hb
      rw [h6] at e0 hb0 e1 e2 e3 e4 ⊢
      clear hb h5 h6
      go_enter Tryz.func155, Tryz.ntmps155
      go_wp2_with (first | (go_at_call 92; refine (cB _ _ _ _ _).mono ?_; rintro e w1 ⟨rfl, hb1⟩; rw [HB.out]; have e1 := (hb1.cell (p := ⟨w.heap.size, 1, none⟩) (cell_block e1)).trans e1; have e2 := (hb1.cell (p := ⟨w.heap.size, 2, none⟩) (cell_block e2)).trans e2) | (go_at_call 134; refine (rintsMay_any _ _).mono ?_; rintro e w' ⟨rfl, rfl⟩))
      go_ret
      exact ⟨by rw [HV.out]; rfl, hb0.trans (hb1.mono hb0.size)⟩
  by_cases h7 : x.k = 7
  · rw [h7] at cB
    cases hb : bareB x false true false false
    · have HV : Hid (leafB x = (false)) := by unfold Hid leafB; simp [h7, hb]
      have HB := Lib.hid hb
      rw [h7] at e0 hb0 e1 e2 e3 e4 ⊢
      clear hb h5 h6 h7
      go_enter Tryz.func155, Tryz.ntmps155
      go_wp2_with (first | (go_at_call 92; refine (cB _ _ _ _ _).mono ?_; rintro e w1 ⟨rfl, hb1⟩; rw [HB.out]; have e1 := (hb1.cell (p := ⟨w.heap.size, 1, none⟩) (cell_block e1)).trans e1; have e2 := (hb1.cell (p := ⟨w.heap.size, 2, none⟩) (cell_block e2)).trans e2))
      go_ret
      exact ⟨by rw [HV.out]; rfl, hb0.trans (hb1.mono hb0.size)⟩
    · have HV : Hid (leafB x = (atomN x.s)) := by unfold Hid leafB; simp [h7, hb]
      have HB := Lib.hid hb
      rw [h7] at e0 hb0 e1 e2 e3 e4 ⊢
      clear hb h5 h6 h7
      go_enter Tryz.func155, Tryz.ntmps155
      go_wp2_with (first | (go_at_call 92; refine (cB _ _ _ _ _).mono ?_; rintro e w1 ⟨rfl, hb1⟩; rw [HB.out]; have e1 := (hb1.cell (p := ⟨w.heap.size, 1, none⟩) (cell_block e1)).trans e1; have e2 := (hb1.cell (p := ⟨w.heap.size, 2, none⟩) (cell_block e2)).trans e2) | (go_at_call 194; refine (cA _).mono ?_; rintro e w' ⟨rfl, rfl⟩))
      go_ret
      exact ⟨by rw [HV.out]; rfl, hb0.trans (hb1.mono hb0.size)⟩
  by_cases h8 : x.k = 8
  · rw [h8] at cB
    cases hb : bareB x false false false false
    · have HV : Hid (leafB x = (false)) := by unfold Hid leafB; simp [h8, hb]
      have HB := Lib.hid hb
      rw [h8] at e0 hb0 e1 e2 e3 e4 ⊢
      clear hb h5 h6 h7 h8
      go_enter Tryz.func155, Tryz.ntmps155
      go_wp2_with (first | (go_at_call 92; refine (cB _ _ _ _ _).mono ?_; rintro e w1 ⟨rfl, hb1⟩; rw [HB.out]; have e1 := (hb1.cell (p := ⟨w.heap.size, 1, none⟩) (cell_block e1)).trans e1; have e2 := (hb1.cell (p := ⟨w.heap.size, 2, none⟩) (cell_block e2)).trans e2))
      go_ret
      exact ⟨by rw [HV.out]; rfl, hb0.trans (hb1.mono hb0.size)⟩
    · have HV : Hid (leafB x = (true)) := by unfold Hid leafB; simp [h8, hb]
      have HB := Lib.hid hb
      rw [h8] at e0 hb0 e1 e2 e3 e4 ⊢
      clear hb h5 h6 h7 h8
      go_enter Tryz.func155, Tryz.ntmps155
      go_wp2_with (first | (go_at_call 92; refine (cB _ _ _ _ _).mono ?_; rintro e w1 ⟨rfl, hb1⟩; rw [HB.out]; have e1 := (hb1.cell (p := ⟨w.heap.size, 1, none⟩) (cell_block e1)).trans e1; have e2 := (hb1.cell (p := ⟨w.heap.size, 2, none⟩) (cell_block e2)).trans e2))
      go_ret
      exact ⟨by rw [HV.out]; rfl, hb0.trans (hb1.mono hb0.size)⟩
  have HV : Hid (leafB x = false) := by
    unfold Hid leafB; simp [h5, h6, h7, h8]
  have g5 : (x.k == 5) = false := by simpa using h5
  have g6 : (x.k == 6) = false := by simpa using h6
  have g7 : (x.k == 7) = false := by simpa using h7
  have g8 : (x.k == 8) = false := by simpa using h8
  clear h5 h6 h7 h8
  go_enter Tryz.func155, Tryz.ntmps155
  go_wp2
  go_ret
  exact ⟨by rw [HV.out]; rfl, hb0⟩

/-- May a tree be a pattern (its size is not looked at)? -/
def Tr.pat : Tr → Bool
  | .mk k n s t l => leafB (.mk k n s t l) || ((k == 10 || (k == 9 && (l.length : Int) == 2)) && bareB (.mk k n s t l) false false false true && patl l)
where patl : List Tr → Bool
  | [] => true
  | x :: r => x.pat && patl r
theorem pat_eq (x : Tr) : x.pat = (leafB x || ((x.k == 10 || (x.k == 9 && (x.l.length : Int) == 2)) && bareB x false false false true && Tr.pat.patl x.l)) := by cases x; rfl
theorem patl_take {l : List Tr} {k : Nat} (h1 : k < l.length) : Tr.pat.patl (l.drop k) = (l[k].pat && Tr.pat.patl (l.drop (k + 1))) := by
  rw [List.drop_eq_getElem_cons h1, Tr.pat.patl]
end Go.Proofs.YtlhobpknflobgaaGreatDoor
namespace Go.Proofs.YtlhobpknflobgaaGreatDoor
open Go.RowKit

set_option maxHeartbeats 4000000 in
set_option maxRecDepth 100000 in
theorem npat_any {F : Nat → Prop} (x : Tr) : ∀ (w : World) (sv : Value), TrV F w x sv →
    Calls Tryz.prog 171 #[.agg #[.int .i8 x.k, .int .i64 x.n, .string x.s, .string x.t, sv]] w fun e w' => e = .returned (.bool x.pat) ∧ Below w.heap.size w w' := by
  induction x using Tr.ind with
  | h x ih =>
    intro w sv hx
    obtain ⟨p, c, rfl⟩ := hx.kids.slice
    obtain ⟨e0, e1, e2, e3, e4⟩ := box5 w (.int .i8 x.k) (.int .i64 x.n) (.string x.s) (.string x.t) (.slice p x.l.length c) 25
    have hb0 := alloc_below w (.cells #[.int .i8 x.k, .int .i64 x.n, .string x.s, .string x.t, .slice p x.l.length c] 25)
    have hz0 : w.heap.size < (w.alloc (.cells #[.int .i8 x.k, .int .i64 x.n, .string x.s, .string x.t, .slice p x.l.length c] 25)).heap.size := by simp
    have hx0 := hx.below hb0
    have hlen : x.l.length ≤ 2199023255552 := hx.kids.len
    have cL := fun W => leaf_any W x p c hx.wf
    have cB := fun W => rbareN_any W x p c false false false true
    have hpe := pat_eq x
    have IH := Lib.hid ih
    clear ih hx
    cases hleaf : leafB x
    case true =>
      rw [hleaf] at cL
      rw [hleaf, Bool.true_or] at hpe
      have HP := Lib.hid hpe
      clear hleaf hpe cB
      go_enter Tryz.func171, Tryz.ntmps171
      go_wp2_with (go_at_call 155; refine (cL _).mono ?_; rintro e w1 ⟨rfl, hb1⟩)
      go_ret
      exact ⟨by rw [HP.out]; rfl, hb0.trans (hb1.mono hb0.size)⟩
    rw [hleaf] at cL
    rw [hleaf, Bool.false_or] at hpe
    clear hleaf
    by_cases hc : x.k = 10 ∨ (x.k ≠ 10 ∧ x.k = 9 ∧ (x.l.length : Int) = 2)
    case neg =>
      have hf : (x.k == 10 || (x.k == 9 && (x.l.length : Int) == 2)) = false := by
        rw [Bool.eq_false_iff]; intro h; simp only [Bool.or_eq_true, Bool.and_eq_true, beq_iff_eq] at h; omega
      rw [hf, Bool.false_and, Bool.false_and] at hpe
      have HP := Lib.hid hpe
      have g10 : (x.k != 10) = true := by rw [bne_iff_ne]; omega
      by_cases h9 : x.k = 9
      case' pos =>
        have g9 : (x.k != 9) = false := by rw [bne_eq_false_iff_eq]; omega
        have gl : ((x.l.length : Int) != 2) = true := by rw [bne_iff_ne]; omega
      case' neg =>
        have g9 : (x.k != 9) = true := by rw [bne_iff_ne]; omega
      all_goals
        clear hpe hf hc h9 cB
        go_enter Tryz.func171, Tryz.ntmps171
        go_wp2_with (go_at_call 155; refine (cL _).mono ?_; rintro e w1 ⟨rfl, hb1⟩; have e0 := (hb1.cell (p := ⟨w.heap.size, 0, none⟩) (cell_block e0)).trans e0; have e4 := (hb1.cell (p := ⟨w.heap.size, 4, none⟩) (cell_block e4)).trans e4)
        go_ret
        exact ⟨by rw [HP.out]; rfl, hb0.trans (hb1.mono hb0.size)⟩
    have ht : (x.k == 10 || (x.k == 9 && (x.l.length : Int) == 2)) = true := by
      simp only [Bool.or_eq_true, Bool.and_eq_true, beq_iff_eq]; omega
    rw [ht, Bool.true_and] at hpe
    clear ht
    cases hb : bareB x false false false true
    case' false =>
      rw [hb] at cB
      rw [hb, Bool.false_and] at hpe
    case' true =>
      rw [hb] at cB
      rw [hb, Bool.true_and] at hpe
    all_goals
      have HP := Lib.hid hpe
      clear hb hpe
      rcases hc with hc | ⟨hc, hc9, hcl⟩
      case' inl =>
        have g10 : (x.k != 10) = false := by rw [bne_eq_false_iff_eq]; omega
        clear hc
      case' inr =>
        have g10 : (x.k != 10) = true := by rw [bne_iff_ne]; omega
        have g9 : (x.k != 9) = false := by rw [bne_eq_false_iff_eq]; omega
        have gl : ((x.l.length : Int) != 2) = false := by rw [bne_eq_false_iff_eq]; omega
        clear hc hc9 hcl
      all_goals
        go_enter Tryz.func171, Tryz.ntmps171
        go_wp2_with (first
          | (go_at_call 155; refine (cL _).mono ?_; rintro e w1 ⟨rfl, hb1⟩; have e0 := (hb1.cell (p := ⟨w.heap.size, 0, none⟩) (cell_block e0)).trans e0; have e1 := (hb1.cell (p := ⟨w.heap.size, 1, none⟩) (cell_block e1)).trans e1; have e2 := (hb1.cell (p := ⟨w.heap.size, 2, none⟩) (cell_block e2)).trans e2; have e3 := (hb1.cell (p := ⟨w.heap.size, 3, none⟩) (cell_block e3)).trans e3; have e4 := (hb1.cell (p := ⟨w.heap.size, 4, none⟩) (cell_block e4)).trans e4)
          | (go_at_call 92; refine (cB _).mono ?_; rintro e w2 ⟨rfl, hb2⟩; have e4 := (hb2.cell (p := ⟨w.heap.size, 4, none⟩) (cell_block e4)).trans e4))
    all_goals have hB2 : Below w.heap.size w w2 := hb0.trans ((hb1.trans (hb2.mono hb1.size)).mono hb0.size)
    all_goals have hx2 := (hx0.below hb1).below hb2
    any_goals
      go_ret
      exact ⟨by rw [HP.out]; rfl, hB2⟩
    all_goals
      clear hb0 hz0 hx0 hb1 hb2 g10
      go_loopw [3] (fun i wr => ∃ k : Nat, k ≤ x.l.length ∧ i = .int .i64 k ∧ Tr.pat.patl (x.l.drop k) = Tr.pat.patl x.l ∧ Below w2.heap.size w2 wr) (fun i _ => x.l.length - (intOf i).toNat)
      case atStart => exact ⟨0, Nat.zero_le _, rfl, rfl, Below.refl _ _⟩
      case round =>
        obtain ⟨k, hk, rfl, hrest, hbr⟩ := hrel
        have hxr := hx2.below hbr
        have hbw := hB2.trans (hbr.mono hB2.size)
        have e4r := (hbr.cell (p := ⟨w.heap.size, 4, none⟩) (cell_block e4)).trans e4
        by_cases hlt : k < x.l.length
        · obtain ⟨g, o, kv, rfl, _, hnode, hkid⟩ := hxr.kids.at hlt
          have cK := IH.out x.l[k] (List.getElem_mem hlt) wr kv hkid
          rw [patl_take hlt] at hrest
          obtain ⟨c0, c1, c2', c3, c4⟩ := hnode
          generalize x.l[k] = u at *
          generalize u.pat = q at *
          have HN := Lib.hid hrest
          clear hrest hkid hxr hx2 e4
          cases q
          · go_wp2_with (go_at_call 171; refine cK.mono ?_; rintro e w5 ⟨rfl, hb5⟩)
            go_ret
            exact ⟨by rw [HP.out, ← HN.out]; rfl, hbw.trans (hb5.mono hbw.size)⟩
          · go_wp2_with (go_at_call 171; refine cK.mono ?_; rintro e w5 ⟨rfl, hb5⟩)
            go_roundw
            case rel => exact ⟨k + 1, hlt, by go_num, by rw [← HN.out]; rfl, hbr.trans (hb5.mono hbr.size)⟩
            case measure => simp [intOf]; omega
        · rw [List.drop_eq_nil_of_le (by omega), Tr.pat.patl] at hrest
          have HN := Lib.hid hrest
          clear hrest hxr hx2 e4
          go_wp2
          go_ret
          exact ⟨by rw [HP.out, ← HN.out]; rfl, hbw⟩

def patB (x : Tr) : Bool := fitsB x && x.pat
set_option maxHeartbeats 1000000 in
set_option maxRecDepth 100000 in
theorem npattern_any {F : Nat → Prop} {x : Tr} {w : World} {sv : Value} (hx : TrV F w x sv) :
    Calls Tryz.prog 130 #[.agg #[.int .i8 x.k, .int .i64 x.n, .string x.s, .string x.t, sv]] w fun e w' => e = .returned (.bool (patB x)) ∧ Below w.heap.size w w' := by
  obtain ⟨p, c, rfl⟩ := hx.kids.slice
  obtain ⟨e0, e1, e2, e3, e4⟩ := box5 w (.int .i8 x.k) (.int .i64 x.n) (.string x.s) (.string x.t) (.slice p x.l.length c) 25
  have hb0 := alloc_below w (.cells #[.int .i8 x.k, .int .i64 x.n, .string x.s, .string x.t, .slice p x.l.length c] 25)
  have hx0 := hx.below hb0
  have cF := nfits_any hx0
  have cP := fun W hb => npat_any x W _ (hx0.below (w' := W) hb)
  unfold patB
  clear hx hx0
  cases hf : fitsB x
  all_goals
    rw [hf] at cF
    clear hf
    go_enter Tryz.func130, Tryz.ntmps130
    go_wp2_with (first
      | (go_at_call 50; refine cF.mono ?_; rintro e w1 ⟨rfl, hb1⟩; have e0 := (hb1.cell (p := ⟨w.heap.size, 0, none⟩) (cell_block e0)).trans e0; have e1 := (hb1.cell (p := ⟨w.heap.size, 1, none⟩) (cell_block e1)).trans e1; have e2 := (hb1.cell (p := ⟨w.heap.size, 2, none⟩) (cell_block e2)).trans e2; have e3 := (hb1.cell (p := ⟨w.heap.size, 3, none⟩) (cell_block e3)).trans e3; have e4 := (hb1.cell (p := ⟨w.heap.size, 4, none⟩) (cell_block e4)).trans e4)
      | (go_at_call 171; refine (cP _ hb1).mono ?_; rintro e w2 ⟨rfl, hb2⟩))
  · go_ret
    exact ⟨rfl, hb0.trans (hb1.mono hb0.size)⟩
  · go_ret
    exact ⟨by simp, hb0.trans ((hb1.trans (hb2.mono hb1.size)).mono hb0.size)⟩
end Go.Proofs.YtlhobpknflobgaaGreatDoor
namespace Go.Proofs.YtlhobpknflobgaaGreatDoor
open Go.RowKit

set_option maxHeartbeats 2000000 in
theorem name1_any (w : World) (c : Int) : Calls Tryz.prog 210 #[.int .i32 c] w fun e w' => e = .returned (.bool (!letB c)) ∧ w = w' := by
  rcases byte_cases c with hb | ⟨hb, hb'⟩ | ⟨hb, hb'⟩ | ⟨hb, hb'⟩ | ⟨hb, hb'⟩ | hb | hb | ⟨hb, hb'⟩ | hb
  case inr.inr.inr.inr.inr.inl =>
    subst hb
    go_enter Tryz.func210, Tryz.ntmps210
    go_wp2
    go_ret
    exact ⟨rfl, rfl⟩
  case inr.inr.inr.inr.inr.inr.inl =>
    subst hb
    go_enter Tryz.func210, Tryz.ntmps210
    go_wp2
    go_ret
    exact ⟨rfl, rfl⟩
  all_goals
    have hb2 : (c != 95) = true := by rw [bne_iff_ne]; omega
    go_enter Tryz.func210, Tryz.ntmps210
    go_wp2
    all_goals
      go_ret
      exact ⟨ret_bool (by rw [Bool.eq_iff_iff]; simp [letB]; omega), rfl⟩

theorem below_iter (w : World) (s : ByteArray) (pos : Nat) : Below w.heap.size w (w.iter s pos) := alloc_below w _

/-- What the search tells: a place where no letter stands; -1: there is none. -/
def IdxSays (w : World) (s : ByteArray) (e : Ending) (w' : World) : Prop := (∃ n : Int, e = .returned (.int .i64 n) ∧ (if pfx s = s.size then n = -1 else 0 ≤ n)) ∧ Below w.heap.size w w'

set_option maxHeartbeats 2000000 in
set_option maxRecDepth 100000 in
theorem indexFunc_any (w : World) (s : ByteArray) : Calls Tryz.prog 221 #[.string s, .func (Fn.func 210) #[] #[], .bool true] w (IdxSays w s) := by
  go_enter Tryz.func221, Tryz.ntmps221
  go_wp2
  go_loopw [] (fun w' => ∃ pos : Nat, w' = w.iter s pos ∧ pos ≤ s.size ∧ (s.data.toList.take pos).all (fun c => letB c.toNat) = true) (fun w' => s.size - w'.iterPos w.heap.size)
  case atStart => exact ⟨0, rfl, Nat.zero_le _, rfl⟩
  case round =>
    obtain ⟨pos, rfl, hpos, hall⟩ := hrel
    have HALL := Lib.hid hall
    clear hall
    have hB := below_iter w s pos
    by_cases hp : pos < s.size
    · have hB2 := below_iter w s (pos + (Utf8.decode s pos).2)
      by_cases ha : (s[pos]'hp).toNat < 128
      · have hdec := decode_ascii s pos hp ha
        have hnx : ∀ ty, (Instr.next (.pointer (some ⟨w.heap.size, 0, none⟩)) true ty).run Tryz.prog (w.iter s pos) = .ok (.tuple #[.bool true, .int .i64 pos, .int .i32 (s[pos]'hp).toNat]) (w.iter s (pos + 1)) := fun ty => by
          rw [run_next_any w s pos ty hp, hdec]
        rw [hdec] at hB2
        cases hl : letB (s[pos]'hp).toNat
        all_goals
          have HLB := Lib.hid hl
          clear hl hdec
          go_wp2_with (go_at_call 210; refine (name1_any _ _).mono ?_; rintro e w5 ⟨rfl, rfl⟩; rw [HLB.out])
        · go_ret
          refine ⟨⟨pos, rfl, ?_⟩, hB2⟩
          rw [pfx_of hpos HALL.out fun _ => HLB.out, if_neg (by omega)]; omega
        · go_roundw
          case rel => exact ⟨pos + 1, rfl, hp, all_succ hp HALL.out HLB.out⟩
          case measure => simp; omega
      · have hhigh := (decode_high s pos hp (by omega)).1
        have hnx : ∀ ty, (Instr.next (.pointer (some ⟨w.heap.size, 0, none⟩)) true ty).run Tryz.prog (w.iter s pos) = _ := fun ty => run_next_any w s pos ty hp
        have hl : letB (Utf8.decode s pos).1 = false := by
          cases hc : letB (Utf8.decode s pos).1
          · rfl
          · rw [letB_iff] at hc; omega
        have hl2 : letB (s[pos]'hp).toNat = false := by
          cases hc : letB (s[pos]'hp).toNat
          · rfl
          · rw [letB_iff] at hc; omega
        have HLB := Lib.hid hl
        have HLB2 := Lib.hid hl2
        clear hl hl2 hhigh
        go_wp2_with (go_at_call 210; refine (name1_any _ _).mono ?_; rintro e w5 ⟨rfl, rfl⟩; rw [HLB.out])
        go_ret
        refine ⟨⟨pos, rfl, ?_⟩, hB2⟩
        rw [pfx_of hpos HALL.out fun _ => HLB2.out, if_neg (by omega)]; omega
    · have hnx : ∀ ty, (Instr.next (.pointer (some ⟨w.heap.size, 0, none⟩)) true ty).run Tryz.prog (w.iter s pos) = _ := fun ty => run_next_end w s pos ty hp
      go_wp2
      go_ret
      refine ⟨⟨-1, rfl, ?_⟩, hB⟩
      rw [pfx_of hpos HALL.out fun h => absurd h hp, if_pos (by omega)]
end Go.Proofs.YtlhobpknflobgaaGreatDoor
namespace Go.Proofs.YtlhobpknflobgaaGreatDoor
open Go.RowKit

theorem emp_iff (s : ByteArray) : s.toList.isEmpty = true ↔ s.size = 0 := by
  rw [ByteArray.toList_eq, List.isEmpty_iff]
  have := size_list s
  constructor
  · intro h; rw [h] at this; simpa using this.symm
  · intro h; exact List.eq_nil_of_length_eq_zero (by omega)

set_option maxHeartbeats 1000000 in
theorem sIndexFunc_any (w : World) (s : ByteArray) : Calls Tryz.prog 219 #[.string s, .func (Fn.func 210) #[] #[]] w (IdxSays w s) := by
  have cI := indexFunc_any w s
  go_enter Tryz.func219, Tryz.ntmps219
  go_wp2_with (go_at_call 221; refine cI.mono ?_; rintro e w5 ⟨⟨n, rfl, hn⟩, hb5⟩; have HN := Lib.hid hn; clear hn)
  go_ret
  exact ⟨⟨n, rfl, HN.out⟩, hb5⟩
def ContSays (w : World) (s : ByteArray) (e : Ending) (w' : World) : Prop := e = .returned (.bool (!(pfx s == s.size))) ∧ Below w.heap.size w w'
set_option maxHeartbeats 1000000 in
theorem containsFunc_any (w : World) (s : ByteArray) : Calls Tryz.prog 209 #[.string s, .func (Fn.func 210) #[] #[]] w (ContSays w s) := by
  have cI := sIndexFunc_any w s
  go_enter Tryz.func209, Tryz.ntmps209
  go_upto_region 1 with fail
  cases hp : (pfx s == s.size)
  · have hn : ¬ pfx s = s.size := by simpa using hp
    have HP := Lib.hid hp
    have HN := Lib.hid hn
    clear hp hn
    go_wp2_with (go_at_call 219; refine cI.mono ?_; rintro e w5 ⟨⟨n, rfl, hn⟩, hb5⟩; rw [if_neg HN.out] at hn)
    go_ret
    exact ⟨ret_bool (by rw [HP.out]; simp), hb5⟩
  · have hn : pfx s = s.size := by simpa using hp
    have HP := Lib.hid hp
    have HN := Lib.hid hn
    clear hp hn
    go_wp2_with (go_at_call 219; refine cI.mono ?_; rintro e w5 ⟨⟨n, rfl, hn⟩, hb5⟩; rw [if_pos HN.out] at hn; subst hn)
    go_ret
    exact ⟨ret_bool (by rw [HP.out]; simp), hb5⟩

set_option maxHeartbeats 2000000 in
set_option maxRecDepth 100000 in
theorem tname_any (w : World) (s : ByteArray) (hs : s.size ≤ 140737488355328) :
    Calls Tryz.prog 180 #[.string s] w fun e w' => e = .returned (.bool (nameA s)) ∧ Below w.heap.size w w' := by
  have HNI := Lib.hid (nameA_iff s)
  have cC := containsFunc_any w s
  by_cases h1 : 1 ≤ s.size
  · have he : s.toList.isEmpty = false := by rw [Bool.eq_false_iff]; intro h; rw [emp_iff] at h; omega
    have he2 : ¬ s.toList = [] := by intro h; rw [h] at he; cases he
    have h0 : 0 < s.size := h1
    have hf := fb_eq h0
    have HF := Lib.hid hf
    by_cases h2 : s.size ≤ 32
    · by_cases hok : fb s = 95 ∨ (65 ≤ fb s ∧ fb s ≤ 90)
      · have hname : nameA s = (pfx s == s.size) := by
          rw [Bool.eq_iff_iff, HNI.out, beq_iff_eq]
          constructor
          · exact fun h => h.1.2.2
          · exact fun h => ⟨⟨h1, h2, h⟩, by omega⟩
        have HY := Lib.hid hname
        clear hname
        rcases hok with hok | ⟨hok, hok'⟩
        case' inl =>
          have n95 : ((s[0].toNat : Int) != 95) = false := by rw [bne_eq_false_iff_eq]; omega
          clear hok hf
        case' inr =>
          have n95 : ((s[0].toNat : Int) != 95) = true := by rw [bne_iff_ne]; omega
          have k65 : 65 ≤ (s[0].toNat : Int) := by omega
          have k90 : (s[0].toNat : Int) ≤ 90 := by omega
          clear hok hok' hf
        all_goals
          go_enter Tryz.func180, Tryz.ntmps180
          go_wp2_with (go_at_call 209; refine cC.mono ?_; rintro e w5 ⟨rfl, hb5⟩)
          go_ret
          exact ⟨by rw [HY.out]; simp, hb5⟩
      · have hno : nameA s = false := by
          cases hc : nameA s
          · rfl
          · have := (HNI.out.1 hc).2; omega
        have HN := Lib.hid hno
        have g95 : ((s[0].toNat : Int) != 95) = true := by rw [bne_iff_ne]; omega
        have g : (s[0].toNat : Int) < 65 ∨ 90 < (s[0].toNat : Int) := by omega
        clear hno hf hok
        rcases g with g | g
        · go_enter Tryz.func180, Tryz.ntmps180
          go_wp2
          go_ret
          exact ⟨by rw [HN.out]; rfl, Below.refl _ _⟩
        · have g2 : 65 ≤ (s[0].toNat : Int) := by omega
          go_enter Tryz.func180, Tryz.ntmps180
          go_wp2
          go_ret
          exact ⟨by rw [HN.out]; rfl, Below.refl _ _⟩
    · have hno : nameA s = false := by
        cases hc : nameA s
        · rfl
        · have := (HNI.out.1 hc).1.2.1; omega
      have HN := Lib.hid hno
      have h3 : 32 < s.size := by omega
      clear hf hno
      go_enter Tryz.func180, Tryz.ntmps180
      go_wp2
      go_ret
      exact ⟨by rw [HN.out]; rfl, Below.refl _ _⟩
  · have hno : nameA s = false := by
      cases hc : nameA s
      · rfl
      · have := (HNI.out.1 hc).1.1; omega
    have HN := Lib.hid hno
    have he : s.toList.isEmpty = true := by rw [emp_iff]; omega
    have he2 : s.toList = [] := List.isEmpty_iff.1 he
    clear hno
    go_enter Tryz.func180, Tryz.ntmps180
    go_wp2
    go_ret
    exact ⟨by rw [HN.out]; rfl, Below.refl _ _⟩

/-- A row of texts, as a slice. -/
def WordsAt (w : World) (b : Nat) (l : List (List UInt8)) : Prop := ∀ k (h : k < l.length), ∃ u : ByteArray, w.cell? ⟨b, k, none⟩ = some (.string u) ∧ u.toList = l[k]
def IdxS (w : World) (s : ByteArray) (l : List (List UInt8)) (e : Ending) (w' : World) : Prop := (∃ n : Int, e = .returned (.int .i64 n) ∧ (if (l.any fun u => s.toList == u) = true then 0 ≤ n else n = -1)) ∧ w = w'
set_option maxHeartbeats 1000000 in
set_option maxRecDepth 100000 in
theorem sindex_any {w : World} {b c : Nat} {l : List (List UInt8)} (h : WordsAt w b l) (hl : l.length ≤ 100) (s : ByteArray) : Calls Tryz.prog 173 #[.slice (some ⟨b, 0, none⟩) l.length c, .string s] w (IdxS w s l) := by
  have H := Lib.hid h
  clear h
  go_enter Tryz.func173, Tryz.ntmps173
  go_wp2
  go_loopw [8] (fun i wr => ∃ k : Nat, k ≤ l.length ∧ i = .int .i64 k ∧ ((l.take k).any fun u => s.toList == u) = false ∧ w = wr) (fun i _ => l.length - (intOf i).toNat)
  case atStart => exact ⟨0, Nat.zero_le _, rfl, rfl, rfl⟩
  case round =>
    obtain ⟨k, hk, rfl, hrest, rfl⟩ := hrel
    by_cases hlt : k < l.length
    · obtain ⟨u, hu, hul⟩ := H.out k hlt
      cases hq : (s.toList == u.toList)
      · have hnext : ((l.take (k + 1)).any fun u => s.toList == u) = false := by
          rw [List.take_succ_eq_append_getElem hlt, List.any_append, hrest, ← hul]; simp [hq]
        have HN := Lib.hid hnext
        clear hnext hrest hul
        go_wp2
        go_roundw
        case rel => exact ⟨k + 1, hlt, by go_num, HN.out, by first | rfl | trivial⟩
        case measure => simp [intOf]; omega
      · have hany : (l.any fun u => s.toList == u) = true := List.any_eq_true.2 ⟨_, List.getElem_mem hlt, by rw [← hul]; exact hq⟩
        have HN := Lib.hid hany
        clear hany hrest hul
        go_wp2
        go_ret
        exact ⟨⟨k, rfl, by rw [if_pos HN.out]; omega⟩, rfl⟩
    · rw [List.take_of_length_le (by omega)] at hrest
      have HN := Lib.hid hrest
      clear hrest
      go_wp2
      go_ret
      exact ⟨⟨-1, rfl, by rw [if_neg (by rw [HN.out]; simp)]⟩, rfl⟩
set_option maxHeartbeats 1000000 in
theorem scontains_any {w : World} {b c : Nat} {l : List (List UInt8)} (h : WordsAt w b l) (hl : l.length ≤ 100) (s : ByteArray) : Calls Tryz.prog 143 #[.slice (some ⟨b, 0, none⟩) l.length c, .string s] w fun e w' => e = .returned (.bool (l.any fun u => s.toList == u)) ∧ w = w' := by
  have cI := sindex_any (c := c) h hl s
  clear h
  generalize hq : (l.any fun u => s.toList == u) = q
  have HQ := Lib.hid hq
  clear hq
  go_enter Tryz.func143, Tryz.ntmps143
  go_upto_region 1 with fail
  cases q
  · go_wp2_with (go_at_call 173; refine cI.mono ?_; rintro e w5 ⟨⟨n, rfl, hn⟩, rfl⟩; rw [if_neg (by rw [HQ.out]; simp)] at hn; subst hn)
    go_ret
    exact ⟨rfl, rfl⟩
  · go_wp2_with (go_at_call 173; refine cI.mono ?_; rintro e w5 ⟨⟨n, rfl, hn⟩, rfl⟩; rw [if_pos HQ.out] at hn)
    go_ret
    exact ⟨by simp, rfl⟩
end Go.Proofs.YtlhobpknflobgaaGreatDoor
