/-
  The reference's names: pleachref02.letter, Prefix, May, Name; ints.May, pleachref01.May. Conditions: a text is not longer than memory lets.
-/
import Derived.Test.YtjnmdbfijdnaiaaGreatDoorAtoms
namespace Go.Proofs.YtjnmdbfijdnaiaaGreatDoor
open Go.RowKit

set_option maxHeartbeats 1000000 in
theorem letter_any (w : World) (c : Int) :
    Calls Tryz.prog 73 #[.int .u8 c] w fun e w' => e = .returned (.bool (letB c)) ∧ w = w' := by
  by_cases h1 : 97 ≤ c
  · by_cases h2 : c ≤ 122
    · go_enter Tryz.func73, Tryz.ntmps73
      go_wp2
      go_ret
      exact ⟨ret_bool (by rw [Bool.eq_iff_iff, letB_iff]; simp; omega), rfl⟩
    · go_enter Tryz.func73, Tryz.ntmps73
      go_wp2
      go_ret
      exact ⟨ret_bool (by rw [Bool.eq_iff_iff, letB_iff]; simp; omega), rfl⟩
  · by_cases h3 : 65 ≤ c
    · by_cases h4 : c ≤ 90
      · go_enter Tryz.func73, Tryz.ntmps73
        go_wp2
        go_ret
        exact ⟨ret_bool (by rw [Bool.eq_iff_iff, letB_iff]; simp; omega), rfl⟩
      · go_enter Tryz.func73, Tryz.ntmps73
        go_wp2
        go_ret
        exact ⟨ret_bool (by rw [Bool.eq_iff_iff, letB_iff]; simp; omega), rfl⟩
    · by_cases h4 : 48 ≤ c
      · by_cases h5 : c ≤ 57
        · go_enter Tryz.func73, Tryz.ntmps73
          go_wp2
          go_ret
          exact ⟨ret_bool (by rw [Bool.eq_iff_iff, letB_iff]; simp; omega), rfl⟩
        · go_enter Tryz.func73, Tryz.ntmps73
          go_wp2
          go_ret
          exact ⟨ret_bool (by rw [Bool.eq_iff_iff, letB_iff]; simp; omega), rfl⟩
      · go_enter Tryz.func73, Tryz.ntmps73
        go_wp2
        go_ret
        exact ⟨ret_bool (by rw [Bool.eq_iff_iff, letB_iff]; simp; omega), rfl⟩

set_option maxHeartbeats 1000000 in
theorem rprefix_any (w : World) (s : ByteArray) (hs : s.size ≤ 140737488355328) :
    Calls Tryz.prog 53 #[.string s] w fun e w' => e = .returned (.int .i64 (pfx s)) ∧ w = w' := by
  go_enter Tryz.func53, Tryz.ntmps53
  go_wp2
  go_loopw [3] (fun i wr => ∃ k : Nat, k ≤ s.size ∧ i = .int .i64 k ∧ (s.data.toList.take k).all (fun c => letB c.toNat) = true ∧ w = wr) (fun i _ => s.size - (intOf i).toNat)
  case atStart => exact ⟨0, Nat.zero_le _, rfl, rfl, rfl⟩
  case round =>
    obtain ⟨k, hk, rfl, hall, rfl⟩ := hrel
    have HALL := Lib.hid hall
    clear hall
    by_cases hlt : k < s.size
    · cases hl : letB s[k].toNat
      all_goals
        have HLB := Lib.hid hl
        clear hl
        go_wp2_with (go_at_call 73; refine (letter_any _ _).mono ?_; rintro e w5 ⟨rfl, rfl⟩; rw [HLB.out])
      · go_ret
        exact ⟨ret_i64 (by rw [pfx_of hk HALL.out fun h => HLB.out]), rfl⟩
      · go_roundw
        case rel => exact ⟨k + 1, hlt, by go_num, all_succ hlt HALL.out HLB.out, by first | rfl | trivial⟩
        case measure => simp [intOf]; omega
    · go_wp2
      go_ret
      exact ⟨ret_i64 (by rw [pfx_of hk HALL.out fun h => absurd h hlt]), rfl⟩

theorem wordB_iff (s : ByteArray) : wordB s = true ↔ 1 ≤ s.size ∧ s.size ≤ 32 ∧ pfx s = s.size := by
  unfold wordB
  simp [and_assoc]

set_option maxHeartbeats 1000000 in
set_option maxRecDepth 100000 in
theorem rmay_any (w : World) (s : ByteArray) (hs : s.size ≤ 140737488355328) :
    Calls Tryz.prog 88 #[.string s] w fun e w' => e = .returned (.bool (mayA s)) ∧ w = w' := by
  have cP := rprefix_any w s hs
  by_cases h1 : 1 ≤ s.size
  · have h0 : 0 < s.size := h1
    have hf := fb_eq h0
    by_cases h2 : s.size ≤ 32
    · by_cases h3 : 97 ≤ fb s
      · by_cases h4 : fb s ≤ 122
        · have g3 : 97 ≤ (s[0].toNat : Int) := by omega
          have g4 : (s[0].toNat : Int) ≤ 122 := by omega
          have HF := Lib.hid hf
          clear hf h3 h4
          go_enter Tryz.func88, Tryz.ntmps88
          go_wp2_with (go_at_call 53; refine cP.mono ?_; rintro e w5 ⟨rfl, rfl⟩)
          go_ret
          have := HF.out
          exact ⟨ret_bool (by rw [Bool.eq_iff_iff]; unfold mayA; rw [Bool.and_eq_true, wordB_iff]; simp; omega), rfl⟩
        · have g3 : 97 ≤ (s[0].toNat : Int) := by omega
          have g4 : ¬ (s[0].toNat : Int) ≤ 122 := by omega
          have H4 := Lib.hid h4
          clear hf h3 h4
          go_enter Tryz.func88, Tryz.ntmps88
          go_wp2
          go_ret
          exact ⟨ret_bool (by have := H4.out; unfold mayA; rw [Bool.eq_iff_iff]; simp; omega), rfl⟩
      · have g3 : ¬ 97 ≤ (s[0].toNat : Int) := by omega
        have H4 := Lib.hid h3
        clear hf h3
        go_enter Tryz.func88, Tryz.ntmps88
        go_wp2
        go_ret
        exact ⟨ret_bool (by have := H4.out; unfold mayA; rw [Bool.eq_iff_iff]; simp; omega), rfl⟩
    · clear hf
      go_enter Tryz.func88, Tryz.ntmps88
      go_wp2
      go_ret
      exact ⟨ret_bool (by unfold mayA wordB; rw [decide_eq_false h2]; simp), rfl⟩
  · go_enter Tryz.func88, Tryz.ntmps88
    go_wp2
    go_ret
    exact ⟨ret_bool (by unfold mayA wordB; rw [decide_eq_false h1]; simp), rfl⟩

theorem nameA_iff (s : ByteArray) : nameA s = true ↔ (1 ≤ s.size ∧ s.size ≤ 32 ∧ pfx s = s.size) ∧ ((65 ≤ fb s ∧ fb s ≤ 90) ∨ fb s = 95) := by
  unfold nameA
  rw [Bool.and_eq_true, wordB_iff]
  simp

set_option maxHeartbeats 2000000 in
set_option maxRecDepth 100000 in
theorem rname_any (w : World) (s : ByteArray) (hs : s.size ≤ 140737488355328) :
    Calls Tryz.prog 31 #[.string s] w fun e w' => e = .returned (.bool (nameA s)) ∧ w = w' := by
  have cP := rprefix_any w s hs
  by_cases h1 : 1 ≤ s.size
  · have h0 : 0 < s.size := h1
    have hf := fb_eq h0
    have hni := nameA_iff s
    have HNI := Lib.hid hni
    clear hni
    generalize hc : (s[0].toNat : Int) = c at hf
    have HC := Lib.hid hc
    have HF := Lib.hid hf
    clear hf
    by_cases h2 : s.size ≤ 32
    · by_cases h3 : 65 ≤ c
      · by_cases h4 : c ≤ 90
        · have g3 : 65 ≤ (s[0].toNat : Int) := by omega
          have g4 : (s[0].toNat : Int) ≤ 90 := by omega
          clear hc
          go_enter Tryz.func31, Tryz.ntmps31
          go_wp2_with (go_at_call 53; refine cP.mono ?_; rintro e w5 ⟨rfl, rfl⟩)
          go_ret
          have := HF.out
          exact ⟨ret_bool (by rw [Bool.eq_iff_iff, HNI.out]; simp; omega), rfl⟩
        · by_cases h5 : c = 95
          · have g3 : 65 ≤ (s[0].toNat : Int) := by omega
            have g4 : ¬ (s[0].toNat : Int) ≤ 90 := by omega
            have g5 : ((s[0].toNat : Int) == 95) = true := by rw [beq_iff_eq]; omega
            have H5 := Lib.hid h5
            clear hc h5
            go_enter Tryz.func31, Tryz.ntmps31
            go_wp2_with (go_at_call 53; refine cP.mono ?_; rintro e w5 ⟨rfl, rfl⟩)
            go_ret
            have := HF.out
            have := H5.out
            exact ⟨ret_bool (by rw [Bool.eq_iff_iff, HNI.out]; simp; omega), rfl⟩
          · have g3 : 65 ≤ (s[0].toNat : Int) := by omega
            have g4 : ¬ (s[0].toNat : Int) ≤ 90 := by omega
            have g5 : ((s[0].toNat : Int) == 95) = false := by rw [beq_eq_false_iff_ne]; omega
            clear hc
            go_enter Tryz.func31, Tryz.ntmps31
            go_wp2
            go_ret
            have := HF.out
            exact ⟨ret_bool (by rw [Bool.eq_iff_iff, HNI.out]; simp; omega), rfl⟩
      · have g3 : ¬ 65 ≤ (s[0].toNat : Int) := by omega
        have g5 : ((s[0].toNat : Int) == 95) = false := by rw [beq_eq_false_iff_ne]; omega
        clear hc
        go_enter Tryz.func31, Tryz.ntmps31
        go_wp2
        go_ret
        have := HF.out
        exact ⟨ret_bool (by rw [Bool.eq_iff_iff, HNI.out]; simp; omega), rfl⟩
    · clear hc
      go_enter Tryz.func31, Tryz.ntmps31
      go_wp2
      go_ret
      exact ⟨ret_bool (by rw [Bool.eq_iff_iff, HNI.out]; simp; omega), rfl⟩
  · go_enter Tryz.func31, Tryz.ntmps31
    go_wp2
    go_ret
    exact ⟨ret_bool (by rw [Bool.eq_iff_iff, nameA_iff]; simp; omega), rfl⟩

/-- May a number be an integer? -/
def mayI (n : Int) : Bool := decide (-576460752303423488 ≤ n) && decide (n ≤ 576460752303423487)
set_option maxHeartbeats 400000 in
theorem intsMay_any (w : World) (n : Int) : Calls Tryz.prog 71 #[.int .i64 n] w fun e w' => e = .returned (.bool (mayI n)) ∧ w = w' := by
  by_cases h1 : -576460752303423488 ≤ n
  · go_enter Tryz.func71, Tryz.ntmps71
    go_wp2
    go_ret
    exact ⟨ret_bool (by unfold mayI; rw [decide_eq_true h1]; simp), rfl⟩
  · go_enter Tryz.func71, Tryz.ntmps71
    go_wp2
    go_ret
    exact ⟨ret_bool (by unfold mayI; rw [Bool.eq_iff_iff]; simp; omega), rfl⟩
set_option maxHeartbeats 400000 in
theorem rintsMay_any (w : World) (n : Int) : Calls Tryz.prog 85 #[.int .i64 n] w fun e w' => e = .returned (.bool (mayI n)) ∧ w = w' := by
  by_cases h1 : -576460752303423488 ≤ n
  · go_enter Tryz.func85, Tryz.ntmps85
    go_wp2
    go_ret
    exact ⟨ret_bool (by unfold mayI; rw [decide_eq_true h1]; simp), rfl⟩
  · go_enter Tryz.func85, Tryz.ntmps85
    go_wp2
    go_ret
    exact ⟨ret_bool (by unfold mayI; rw [Bool.eq_iff_iff]; simp; omega), rfl⟩
end Go.Proofs.YtjnmdbfijdnaiaaGreatDoor
