/-
  The program's names and words of trees: ast.name, atom; strings.ContainsFunc at name's predicate; slices.Contains at strings. Conditions: a text is not longer than memory lets.
-/
import Derived.Test.YtjnmdbfijdnaiaaGreatDoorAst6
import Derived.Laws.RangeAny
namespace Go.Proofs.YtjnmdbfijdnaiaaGreatDoor
open Go.RowKit

set_option maxHeartbeats 2000000 in
theorem name1_any (w : World) (c : Int) : Calls Tryz.prog 103 #[.int .i32 c] w fun e w' => e = .returned (.bool (!letB c)) ∧ w = w' := by
  rcases byte_cases c with hb | ⟨hb, hb'⟩ | ⟨hb, hb'⟩ | ⟨hb, hb'⟩ | ⟨hb, hb'⟩ | hb | hb | ⟨hb, hb'⟩ | hb
  case inr.inr.inr.inr.inr.inl =>
    subst hb
    go_enter Tryz.func103, Tryz.ntmps103
    go_wp2
    go_ret
    exact ⟨rfl, rfl⟩
  case inr.inr.inr.inr.inr.inr.inl =>
    subst hb
    go_enter Tryz.func103, Tryz.ntmps103
    go_wp2
    go_ret
    exact ⟨rfl, rfl⟩
  all_goals
    have hb2 : (c != 95) = true := by rw [bne_iff_ne]; omega
    go_enter Tryz.func103, Tryz.ntmps103
    go_wp2
    all_goals
      go_ret
      exact ⟨ret_bool (by rw [Bool.eq_iff_iff]; simp [letB]; omega), rfl⟩

theorem below_iter (w : World) (s : ByteArray) (pos : Nat) : Below w.heap.size w (w.iter s pos) := alloc_below w _

/-- What the search tells: a place where no letter stands; -1: there is none. -/
def IdxSays (w : World) (s : ByteArray) (e : Ending) (w' : World) : Prop := (∃ n : Int, e = .returned (.int .i64 n) ∧ (if pfx s = s.size then n = -1 else 0 ≤ n)) ∧ Below w.heap.size w w'

set_option maxHeartbeats 2000000 in
set_option maxRecDepth 100000 in
theorem indexFunc_any (w : World) (s : ByteArray) : Calls Tryz.prog 113 #[.string s, .func (Fn.func 103) #[] #[], .bool true] w (IdxSays w s) := by
  go_enter Tryz.func113, Tryz.ntmps113
  go_wp2
  go_loopw [] (fun w' => ∃ pos : Nat, w' = w.iter s pos ∧ pos ≤ s.size ∧ (s.data.toList.take pos).all (fun c => letB c.toNat) = true) (fun w' => s.size - w'.iterPos w.heap.size)
  case atStart => exact ⟨0, rfl, Nat.zero_le _, rfl⟩
  case round =>
    obtain ⟨pos, rfl, hpos, hall⟩ := hrel
    have HALL := Lib.hid hall
    clear hall
    have hB := below_iter w s pos
    by_cases hp : pos < s.size
    · have hB2 := below_iter w s (pos + (Utf8.decode s pos).2)
      by_cases ha : (s[pos]'hp).toNat < 128
      · have hdec := decode_ascii s pos hp ha
        have hnx : ∀ ty, (Instr.next (.pointer (some ⟨w.heap.size, 0, none⟩)) true ty).run Tryz.prog (w.iter s pos) = .ok (.tuple #[.bool true, .int .i64 pos, .int .i32 (s[pos]'hp).toNat]) (w.iter s (pos + 1)) := fun ty => by
          rw [run_next_any w s pos ty hp, hdec]
        rw [hdec] at hB2
        cases hl : letB (s[pos]'hp).toNat
        all_goals
          have HLB := Lib.hid hl
          clear hl hdec
          go_wp2_with (go_at_call 103; refine (name1_any _ _).mono ?_; rintro e w5 ⟨rfl, rfl⟩; rw [HLB.out])
        · go_ret
          refine ⟨⟨pos, rfl, ?_⟩, hB2⟩
          rw [pfx_of hpos HALL.out fun _ => HLB.out, if_neg (by omega)]; omega
        · go_roundw
          case rel => exact ⟨pos + 1, rfl, hp, all_succ hp HALL.out HLB.out⟩
          case measure => simp; omega
      · have hhigh := (decode_high s pos hp (by omega)).1
        have hnx : ∀ ty, (Instr.next (.pointer (some ⟨w.heap.size, 0, none⟩)) true ty).run Tryz.prog (w.iter s pos) = _ := fun ty => run_next_any w s pos ty hp
        have hl : letB (Utf8.decode s pos).1 = false := by
          cases hc : letB (Utf8.decode s pos).1
          · rfl
          · rw [letB_iff] at hc; omega
        have hl2 : letB (s[pos]'hp).toNat = false := by
          cases hc : letB (s[pos]'hp).toNat
          · rfl
          · rw [letB_iff] at hc; omega
        have HLB := Lib.hid hl
        have HLB2 := Lib.hid hl2
        clear hl hl2 hhigh
        go_wp2_with (go_at_call 103; refine (name1_any _ _).mono ?_; rintro e w5 ⟨rfl, rfl⟩; rw [HLB.out])
        go_ret
        refine ⟨⟨pos, rfl, ?_⟩, hB2⟩
        rw [pfx_of hpos HALL.out fun _ => HLB2.out, if_neg (by omega)]; omega
    · have hnx : ∀ ty, (Instr.next (.pointer (some ⟨w.heap.size, 0, none⟩)) true ty).run Tryz.prog (w.iter s pos) = _ := fun ty => run_next_end w s pos ty hp
      go_wp2
      go_ret
      refine ⟨⟨-1, rfl, ?_⟩, hB⟩
      rw [pfx_of hpos HALL.out fun h => absurd h hp, if_pos (by omega)]
end Go.Proofs.YtjnmdbfijdnaiaaGreatDoor
