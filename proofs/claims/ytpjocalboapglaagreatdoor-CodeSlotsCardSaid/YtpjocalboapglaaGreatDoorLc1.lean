/-
  CodeSlots: for every number and name it returns true. Conditions: the table of letters, the two errors of strconv.
-/
import Derived.Test.YtpjocalboapglaaGreatDoorCs1
import Derived.Test.YtpjocalboapglaaGreatDoorWk13
namespace Go.Proofs.YtpjocalboapglaaGreatDoor
open Go.RowKit Sx
noncomputable def rho13 : Cx := ⟨fun _ => .bool true, fun _ => [], [(0, letterVals13)], Tryz.prog⟩
/-- The table of letters. -/
def LettersAt (w : World) : Prop := ∀ (j : Nat) (v : Value), letterVals13[j]? = some v → w.cell? ⟨0, j, none⟩ = some v
theorem LettersAt.below {w w' : World} (h : LettersAt w) (hb : Below w.heap.size w w') : LettersAt w' := fun j v hj =>
  (hb.cell (p := ⟨0, j, none⟩) (cell_blk (h j v hj))).trans (h j v hj)
theorem told13 {w : World} (h : LettersAt w) : ToldM rho13.tl (memOf w) := by
  intro p hp
  simp only [rho13, List.mem_cons, List.not_mem_nil, or_false] at hp
  subst hp
  have e0 := h 0 _ rfl
  have blk : ∃ cs ty fz, w.heap[0]? = some (.cells cs ty fz) := by
    unfold World.cell? at e0
    split at e0
    · rename_i hh; exact ⟨_, _, _, hh⟩
    · cases e0
  obtain ⟨cs, ty, fz, hblk⟩ := blk
  refine ⟨cs, memOf_at hblk, fun j v hj => ?_⟩
  have := h j v hj
  simpa [World.cell?, hblk] using this
theorem wakes13_any {w : World} (h : LettersAt w) : Calls Tryz.prog 9 #[] w fun e w' => e = .returned (.bool true) ∧ Below w.heap.size w w' := by
  refine ((wakes13 (ρ := rho13) rfl (fun _ => trivial) (.head _)).2 w (memOf w) #[] (memOf_ok w) (told13 h) rfl).mono ?_
  rintro e w' ⟨v, M', rfl, _, _, _, hv, hb⟩
  obtain rfl : v = .bool true := hv
  exact ⟨rfl, hb⟩
set_option maxHeartbeats 1000000 in
set_option maxRecDepth 100000 in
theorem codeSlots_any {n : Int} {s : ByteArray} {w : World} (hL : LettersAt w) (hE : Errs w) (hs : s.size ≤ 281474976710656) :
    Calls Tryz.prog 3 #[.int .i64 n, .string s] w fun e w' => e = .returned (.bool true) ∧ Below w.heap.size w w' := by
  have cN := fun v W => name_any v W
  have cS := fun (t : ByteArray) (ht : t.size ≤ 281474976710656) W (hb : Below w.heap.size w W) => slot_any ht (hE.below hb)
  have cW := fun W (hb : Below w.heap.size w W) => wakes13_any (hL.below hb)
  have hn : (nmS n).size ≤ 281474976710656 := by
    unfold nmS
    split
    · have := dec_len (k := n.toNat) (by omega)
      rw [Lib.size_eq]
      simp
      omega
    · exact Nat.zero_le _
  have h1 : slotS (nmS n) = if 0 ≤ n ∧ n < 32 then (n, true) else (0, false) := by
    split
    · rename_i h
      obtain ⟨k, rfl⟩ : ∃ k : Nat, n = k := ⟨n.toNat, by omega⟩
      exact slot_back (by omega)
    · rename_i h
      rw [nm_out h]; exact slot_none
  have cS1 := fun W hb => cS (nmS n) hn W hb
  have cS2 := fun W hb => cS s hs W hb
  have hSN := slot_name (s := s)
  generalize hq : slotS (nmS n) = q at cS1 h1
  generalize hp : slotS s = p at cS2 hSN
  obtain ⟨m, is⟩ := p
  clear hq hp
  simp only at cS2 hSN
  have cN1 := fun W => name_any n W
  have cN2 := fun W => name_any m W
  clear cN cS hn hs
  generalize nmS n = s1 at *
  generalize nmS m = s2 at *
  clear hE hL
  have cases3 : (0 ≤ n ∧ n < 32 ∧ q = (n, true)) ∨ (n < 0 ∧ q = (0, false)) ∨ (¬ n < 0 ∧ ¬ n < 32 ∧ q = (0, false)) := by
    by_cases h : 0 ≤ n ∧ n < 32
    · rw [if_pos h] at h1; exact .inl ⟨h.1, h.2, h1⟩
    · rw [if_neg h] at h1
      by_cases h2 : n < 0
      · exact .inr (.inl ⟨h2, h1⟩)
      · exact .inr (.inr ⟨h2, by omega, h1⟩)
  clear h1
  rcases cases3 with ⟨h0, h2, rfl⟩ | ⟨h0, rfl⟩ | ⟨h0, h2, rfl⟩
  all_goals
    simp only at cS1
    cases is
    · clear hSN cN2
      go_enter Tryz.func3, Tryz.ntmps3
      go_wp2_with (first
        | (go_at_call 7; have _ := hb2; refine (cN2 _).mono ?_; rintro e w5 ⟨rfl, rfl⟩)
        | (go_at_call 7; refine (cN1 _).mono ?_; rintro e w3 ⟨rfl, rfl⟩)
        | (go_at_call 8; refine (cS2 _ hb1).mono ?_; rintro e w2 ⟨rfl, hb2⟩)
        | (go_at_call 8; refine (cS1 _ (Below.refl _ _)).mono ?_; rintro e w1 ⟨rfl, hb1⟩)
        | (go_at_call 9; refine (cW _ (hb1.trans (hb2.mono hb1.size))).mono ?_; rintro e w4 ⟨rfl, hb4⟩))
      all_goals
        go_ret
        exact ⟨rfl, hb1.trans ((hb2.trans (hb4.mono hb2.size)).mono hb1.size)⟩
    · have hs2 := hSN rfl
      clear hSN
      subst hs2
      go_enter Tryz.func3, Tryz.ntmps3
      go_wp2_with (first
        | (go_at_call 7; have _ := hb2; refine (cN2 _).mono ?_; rintro e w5 ⟨rfl, rfl⟩)
        | (go_at_call 7; refine (cN1 _).mono ?_; rintro e w3 ⟨rfl, rfl⟩)
        | (go_at_call 8; refine (cS2 _ hb1).mono ?_; rintro e w2 ⟨rfl, hb2⟩)
        | (go_at_call 8; refine (cS1 _ (Below.refl _ _)).mono ?_; rintro e w1 ⟨rfl, hb1⟩)
        | (go_at_call 9; refine (cW _ (hb1.trans (hb2.mono hb1.size))).mono ?_; rintro e w4 ⟨rfl, hb4⟩))
      all_goals
        go_ret
        exact ⟨rfl, hb1.trans ((hb2.trans (hb4.mono hb2.size)).mono hb1.size)⟩
end Go.Proofs.YtpjocalboapglaaGreatDoor
