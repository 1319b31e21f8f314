/-
  ast.name, ast.atom. Conditions: the letters lie as 'Letters' says; a text is not longer than memory lets.
-/
import Derived.Test.YtjnmdbfijdnaiaaGreatDoorAst7
namespace Go.Proofs.YtjnmdbfijdnaiaaGreatDoor
open Go.RowKit

theorem emp_iff (s : ByteArray) : s.toList.isEmpty = true ↔ s.size = 0 := by
  rw [ByteArray.toList_eq, List.isEmpty_iff]
  have := size_list s
  constructor
  · intro h; rw [h] at this; simpa using this.symm
  · intro h; exact List.eq_nil_of_length_eq_zero (by omega)

set_option maxHeartbeats 1000000 in
theorem sIndexFunc_any (w : World) (s : ByteArray) : Calls Tryz.prog 106 #[.string s, .func (Fn.func 103) #[] #[]] w (IdxSays w s) := by
  have cI := indexFunc_any w s
  go_enter Tryz.func106, Tryz.ntmps106
  go_wp2_with (go_at_call 113; refine cI.mono ?_; rintro e w5 ⟨⟨n, rfl, hn⟩, hb5⟩; have HN := Lib.hid hn; clear hn)
  go_ret
  exact ⟨⟨n, rfl, HN.out⟩, hb5⟩
def ContSays (w : World) (s : ByteArray) (e : Ending) (w' : World) : Prop := e = .returned (.bool (!(pfx s == s.size))) ∧ Below w.heap.size w w'
set_option maxHeartbeats 1000000 in
theorem containsFunc_any (w : World) (s : ByteArray) : Calls Tryz.prog 102 #[.string s, .func (Fn.func 103) #[] #[]] w (ContSays w s) := by
  have cI := sIndexFunc_any w s
  go_enter Tryz.func102, Tryz.ntmps102
  go_upto_region 1 with fail
  cases hp : (pfx s == s.size)
  · have hn : ¬ pfx s = s.size := by simpa using hp
    have HP := Lib.hid hp
    have HN := Lib.hid hn
    clear hp hn
    go_wp2_with (go_at_call 106; refine cI.mono ?_; rintro e w5 ⟨⟨n, rfl, hn⟩, hb5⟩; rw [if_neg HN.out] at hn)
    go_ret
    exact ⟨ret_bool (by rw [HP.out]; simp), hb5⟩
  · have hn : pfx s = s.size := by simpa using hp
    have HP := Lib.hid hp
    have HN := Lib.hid hn
    clear hp hn
    go_wp2_with (go_at_call 106; refine cI.mono ?_; rintro e w5 ⟨⟨n, rfl, hn⟩, hb5⟩; rw [if_pos HN.out] at hn; subst hn)
    go_ret
    exact ⟨ret_bool (by rw [HP.out]; simp), hb5⟩

set_option maxHeartbeats 2000000 in
set_option maxRecDepth 100000 in
theorem tname_any (w : World) (s : ByteArray) (hs : s.size ≤ 140737488355328) :
    Calls Tryz.prog 92 #[.string s] w fun e w' => e = .returned (.bool (nameA s)) ∧ Below w.heap.size w w' := by
  have HNI := Lib.hid (nameA_iff s)
  have cC := containsFunc_any w s
  by_cases h1 : 1 ≤ s.size
  · have he : s.toList.isEmpty = false := by rw [Bool.eq_false_iff]; intro h; rw [emp_iff] at h; omega
    have he2 : ¬ s.toList = [] := by intro h; rw [h] at he; cases he
    have h0 : 0 < s.size := h1
    have hf := fb_eq h0
    have HF := Lib.hid hf
    by_cases h2 : s.size ≤ 32
    · by_cases hok : fb s = 95 ∨ (65 ≤ fb s ∧ fb s ≤ 90)
      · have hname : nameA s = (pfx s == s.size) := by
          rw [Bool.eq_iff_iff, HNI.out, beq_iff_eq]
          constructor
          · exact fun h => h.1.2.2
          · exact fun h => ⟨⟨h1, h2, h⟩, by omega⟩
        have HY := Lib.hid hname
        clear hname
        rcases hok with hok | ⟨hok, hok'⟩
        case' inl =>
          have n95 : ((s[0].toNat : Int) != 95) = false := by rw [bne_eq_false_iff_eq]; omega
          clear hok hf
        case' inr =>
          have n95 : ((s[0].toNat : Int) != 95) = true := by rw [bne_iff_ne]; omega
          have k65 : 65 ≤ (s[0].toNat : Int) := by omega
          have k90 : (s[0].toNat : Int) ≤ 90 := by omega
          clear hok hok' hf
        all_goals
          go_enter Tryz.func92, Tryz.ntmps92
          go_wp2_with (go_at_call 102; refine cC.mono ?_; rintro e w5 ⟨rfl, hb5⟩)
          go_ret
          exact ⟨by rw [HY.out]; simp, hb5⟩
      · have hno : nameA s = false := by
          cases hc : nameA s
          · rfl
          · have := (HNI.out.1 hc).2; omega
        have HN := Lib.hid hno
        have g95 : ((s[0].toNat : Int) != 95) = true := by rw [bne_iff_ne]; omega
        have g : (s[0].toNat : Int) < 65 ∨ 90 < (s[0].toNat : Int) := by omega
        clear hno hf hok
        rcases g with g | g
        · go_enter Tryz.func92, Tryz.ntmps92
          go_wp2
          go_ret
          exact ⟨by rw [HN.out]; rfl, Below.refl _ _⟩
        · have g2 : 65 ≤ (s[0].toNat : Int) := by omega
          go_enter Tryz.func92, Tryz.ntmps92
          go_wp2
          go_ret
          exact ⟨by rw [HN.out]; rfl, Below.refl _ _⟩
    · have hno : nameA s = false := by
        cases hc : nameA s
        · rfl
        · have := (HNI.out.1 hc).1.2.1; omega
      have HN := Lib.hid hno
      have h3 : 32 < s.size := by omega
      clear hf hno
      go_enter Tryz.func92, Tryz.ntmps92
      go_wp2
      go_ret
      exact ⟨by rw [HN.out]; rfl, Below.refl _ _⟩
  · have hno : nameA s = false := by
      cases hc : nameA s
      · rfl
      · have := (HNI.out.1 hc).1.1; omega
    have HN := Lib.hid hno
    have he : s.toList.isEmpty = true := by rw [emp_iff]; omega
    have he2 : s.toList = [] := List.isEmpty_iff.1 he
    clear hno
    go_enter Tryz.func92, Tryz.ntmps92
    go_wp2
    go_ret
    exact ⟨by rw [HN.out]; rfl, Below.refl _ _⟩

/-- A row of texts, as a slice. -/
def WordsAt (w : World) (b : Nat) (l : List (List UInt8)) : Prop := ∀ k (h : k < l.length), ∃ u : ByteArray, w.cell? ⟨b, k, none⟩ = some (.string u) ∧ u.toList = l[k]
def IdxS (w : World) (s : ByteArray) (l : List (List UInt8)) (e : Ending) (w' : World) : Prop := (∃ n : Int, e = .returned (.int .i64 n) ∧ (if (l.any fun u => s.toList == u) = true then 0 ≤ n else n = -1)) ∧ w = w'
set_option maxHeartbeats 1000000 in
set_option maxRecDepth 100000 in
theorem sindex_any {w : World} {b c : Nat} {l : List (List UInt8)} (h : WordsAt w b l) (hl : l.length ≤ 100) (s : ByteArray) : Calls Tryz.prog 107 #[.slice (some ⟨b, 0, none⟩) l.length c, .string s] w (IdxS w s l) := by
  have H := Lib.hid h
  clear h
  go_enter Tryz.func107, Tryz.ntmps107
  go_wp2
  go_loopw [8] (fun i wr => ∃ k : Nat, k ≤ l.length ∧ i = .int .i64 k ∧ ((l.take k).any fun u => s.toList == u) = false ∧ w = wr) (fun i _ => l.length - (intOf i).toNat)
  case atStart => exact ⟨0, Nat.zero_le _, rfl, rfl, rfl⟩
  case round =>
    obtain ⟨k, hk, rfl, hrest, rfl⟩ := hrel
    by_cases hlt : k < l.length
    · obtain ⟨u, hu, hul⟩ := H.out k hlt
      cases hq : (s.toList == u.toList)
      · have hnext : ((l.take (k + 1)).any fun u => s.toList == u) = false := by
          rw [List.take_succ_eq_append_getElem hlt, List.any_append, hrest, ← hul]; simp [hq]
        have HN := Lib.hid hnext
        clear hnext hrest hul
        go_wp2
        go_roundw
        case rel => exact ⟨k + 1, hlt, by go_num, HN.out, by first | rfl | trivial⟩
        case measure => simp [intOf]; omega
      · have hany : (l.any fun u => s.toList == u) = true := List.any_eq_true.2 ⟨_, List.getElem_mem hlt, by rw [← hul]; exact hq⟩
        have HN := Lib.hid hany
        clear hany hrest hul
        go_wp2
        go_ret
        exact ⟨⟨k, rfl, by rw [if_pos HN.out]; omega⟩, rfl⟩
    · rw [List.take_of_length_le (by omega)] at hrest
      have HN := Lib.hid hrest
      clear hrest
      go_wp2
      go_ret
      exact ⟨⟨-1, rfl, by rw [if_neg (by rw [HN.out]; simp)]⟩, rfl⟩
set_option maxHeartbeats 1000000 in
theorem scontains_any {w : World} {b c : Nat} {l : List (List UInt8)} (h : WordsAt w b l) (hl : l.length ≤ 100) (s : ByteArray) : Calls Tryz.prog 104 #[.slice (some ⟨b, 0, none⟩) l.length c, .string s] w fun e w' => e = .returned (.bool (l.any fun u => s.toList == u)) ∧ w = w' := by
  have cI := sindex_any (c := c) h hl s
  clear h
  generalize hq : (l.any fun u => s.toList == u) = q
  have HQ := Lib.hid hq
  clear hq
  go_enter Tryz.func104, Tryz.ntmps104
  go_upto_region 1 with fail
  cases q
  · go_wp2_with (go_at_call 107; refine cI.mono ?_; rintro e w5 ⟨⟨n, rfl, hn⟩, rfl⟩; rw [if_neg (by rw [HQ.out]; simp)] at hn; subst hn)
    go_ret
    exact ⟨rfl, rfl⟩
  · go_wp2_with (go_at_call 107; refine cI.mono ?_; rintro e w5 ⟨⟨n, rfl, hn⟩, rfl⟩; rw [if_pos HQ.out] at hn)
    go_ret
    exact ⟨by simp, rfl⟩
end Go.Proofs.YtjnmdbfijdnaiaaGreatDoor
