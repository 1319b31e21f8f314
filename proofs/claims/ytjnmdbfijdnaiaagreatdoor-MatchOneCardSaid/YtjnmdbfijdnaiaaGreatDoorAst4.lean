/-
  The reference's names and words of trees: pleachref07.Name, Word, Atom. Conditions: a text is not longer than memory lets.
-/
import Derived.Test.YtjnmdbfijdnaiaaGreatDoorAst3
namespace Go.Proofs.YtjnmdbfijdnaiaaGreatDoor
open Go.RowKit

theorem byte_cases (c : Int) : c < 48 ∨ (48 ≤ c ∧ c ≤ 57) ∨ (57 < c ∧ c < 65) ∨ (65 ≤ c ∧ c ≤ 90) ∨ (90 < c ∧ c < 95) ∨ c = 95 ∨ c = 96 ∨ (97 ≤ c ∧ c ≤ 122) ∨ 122 < c := by omega

set_option maxHeartbeats 4000000 in
set_option maxRecDepth 100000 in
theorem nname_any (w : World) (s : ByteArray) (hs : s.size ≤ 140737488355328) :
    Calls Tryz.prog 84 #[.string s] w fun e w' => e = .returned (.bool (nameA s)) ∧ w = w' := by
  have HNI := Lib.hid (nameA_iff s)
  by_cases h1 : 1 ≤ s.size
  · have h0 : 0 < s.size := h1
    have hf := fb_eq h0
    have HF := Lib.hid hf
    by_cases h2 : s.size ≤ 32
    · by_cases hok : fb s = 95 ∨ (65 ≤ fb s ∧ fb s ≤ 90)
      · have HOK := Lib.hid hok
        have hname : pfx s = s.size → nameA s = true := fun h => HNI.out.2 ⟨⟨h1, h2, h⟩, by have := HOK.out; omega⟩
        have hnot : pfx s ≠ s.size → nameA s = false := fun h => by
          cases hc : nameA s
          · rfl
          · exact absurd (HNI.out.1 hc).1.2.2 h
        have HY := Lib.hid hname
        have HN := Lib.hid hnot
        clear hname hnot
        rcases hok with hok | ⟨hok, hok'⟩
        case' inl =>
          have n95 : ((s[0].toNat : Int) != 95) = false := by rw [bne_eq_false_iff_eq]; omega
          clear hok hf
        case' inr =>
          have n95 : ((s[0].toNat : Int) != 95) = true := by rw [bne_iff_ne]; omega
          have k65 : 65 ≤ (s[0].toNat : Int) := by omega
          have k90 : (s[0].toNat : Int) ≤ 90 := by omega
          clear hok hok' hf
        all_goals
          go_enter Tryz.func84, Tryz.ntmps84
          go_wp2
          go_loopw [3] (fun i wr => ∃ k : Nat, k ≤ s.size ∧ i = .int .i64 k ∧ (s.data.toList.take k).all (fun c => letB c.toNat) = true ∧ w = wr) (fun i _ => s.size - (intOf i).toNat)
          case atStart => exact ⟨0, Nat.zero_le _, rfl, rfl, rfl⟩
          case round =>
            obtain ⟨k, hk, rfl, hall, rfl⟩ := hrel
            have HALL := Lib.hid hall
            clear hall
            by_cases hlt : k < s.size
            · have hyes : letB s[k].toNat = true → (s.data.toList.take (k + 1)).all (fun c => letB c.toNat) = true := fun h => all_succ hlt HALL.out h
              have hno : letB s[k].toNat = false → nameA s = false := fun h => HN.out (by rw [pfx_of hk HALL.out fun _ => h]; omega)
              have hli := letB_iff s[k].toNat
              have HLI := Lib.hid hli
              have HYES := Lib.hid hyes
              have HNO := Lib.hid hno
              clear hli hyes hno
              rcases byte_cases s[k].toNat with hb | ⟨hb, hb'⟩ | ⟨hb, hb'⟩ | ⟨hb, hb'⟩ | ⟨hb, hb'⟩ | hb | hb | ⟨hb, hb'⟩ | hb
              case inr.inr.inr.inr.inr.inl =>
                have HB := Lib.hid hb
                have hb2 : ((s[k].toNat : Int) != 95) = false := by simpa using hb
                clear hb
                go_wp2
                go_roundw
                case rel => exact ⟨k + 1, hlt, by go_num, HYES.out (HLI.out.2 (by have := HB.out; omega)), by first | rfl | trivial⟩
                case measure => simp [intOf]; omega
              case inr.inr.inr.inr.inr.inr.inl =>
                have HB := Lib.hid hb
                have hb2 : ((s[k].toNat : Int) != 95) = true := by rw [hb]; rfl
                have hb3 : 90 < (s[k].toNat : Int) := by omega
                have hb4 : (s[k].toNat : Int) < 97 := by omega
                clear hb
                go_wp2
                go_ret
                exact ⟨by rw [HNO.out (by have := HB.out; cases hc : letB s[k].toNat; rfl; rw [HLI.out] at hc; omega)]; rfl, rfl⟩
              all_goals
                have hb2 : ((s[k].toNat : Int) != 95) = true := by rw [bne_iff_ne]; omega
                first
                  | (have hy : letB s[k].toNat = true := HLI.out.2 (by omega)
                     have HYY := Lib.hid hy
                     clear hy
                     go_wp2
                     go_roundw
                     case rel => exact ⟨k + 1, hlt, by go_num, HYES.out HYY.out, by first | rfl | trivial⟩
                     case measure => simp [intOf]; omega)
                  | (have hy : letB s[k].toNat = false := by
                       cases hc : letB s[k].toNat
                       · rfl
                       · rw [HLI.out] at hc; omega
                     have HYY := Lib.hid hy
                     clear hy
                     go_wp2
                     go_ret
                     exact ⟨by rw [HNO.out HYY.out]; rfl, rfl⟩)
            · go_wp2
              go_ret
              exact ⟨by rw [HY.out (by rw [pfx_of hk HALL.out fun h => absurd h hlt]; omega)]; rfl, rfl⟩
      · have hno : nameA s = false := by
          cases hc : nameA s
          · rfl
          · have := (HNI.out.1 hc).2; omega
        have HN := Lib.hid hno
        have g95 : ((s[0].toNat : Int) != 95) = true := by rw [bne_iff_ne]; omega
        have g : (s[0].toNat : Int) < 65 ∨ 90 < (s[0].toNat : Int) := by omega
        clear hno hf hok
        rcases g with g | g
        · go_enter Tryz.func84, Tryz.ntmps84
          go_wp2
          go_ret
          exact ⟨by rw [HN.out]; rfl, rfl⟩
        · have g2 : 65 ≤ (s[0].toNat : Int) := by omega
          go_enter Tryz.func84, Tryz.ntmps84
          go_wp2
          go_ret
          exact ⟨by rw [HN.out]; rfl, rfl⟩
    · clear hf
      have h3 : 32 < s.size := by omega
      go_enter Tryz.func84, Tryz.ntmps84
      go_wp2
      go_ret
      exact ⟨ret_bool (by rw [Bool.eq_iff_iff, HNI.out]; simp; omega), rfl⟩
  · have h3 : s.size < 1 := by omega
    go_enter Tryz.func84, Tryz.ntmps84
    go_wp2
    go_ret
    exact ⟨ret_bool (by rw [Bool.eq_iff_iff, HNI.out]; simp; omega), rfl⟩
end Go.Proofs.YtjnmdbfijdnaiaaGreatDoor
