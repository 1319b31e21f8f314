/-
  The reference's patterns: pleachref07.pattern, Pattern. Conditions: the tree lies as 'TrV' says.
-/
import Derived.Test.YtjnmdbfijdnaiaaGreatDoorAst5
namespace Go.Proofs.YtjnmdbfijdnaiaaGreatDoor
open Go.RowKit

set_option maxHeartbeats 4000000 in
set_option maxRecDepth 100000 in
theorem npat_any {F : Nat → Prop} (x : Tr) : ∀ (w : World) (sv : Value), TrV F w x sv →
    Calls Tryz.prog 46 #[.agg #[.int .i8 x.k, .int .i64 x.n, .string x.s, .string x.t, sv]] w fun e w' => e = .returned (.bool x.pat) ∧ Below w.heap.size w w' := by
  induction x using Tr.ind with
  | h x ih =>
    intro w sv hx
    obtain ⟨p, c, rfl⟩ := hx.kids.slice
    obtain ⟨e0, e1, e2, e3, e4⟩ := box5 w (.int .i8 x.k) (.int .i64 x.n) (.string x.s) (.string x.t) (.slice p x.l.length c) 25
    have hb0 := alloc_below w (.cells #[.int .i8 x.k, .int .i64 x.n, .string x.s, .string x.t, .slice p x.l.length c] 25)
    have hz0 : w.heap.size < (w.alloc (.cells #[.int .i8 x.k, .int .i64 x.n, .string x.s, .string x.t, .slice p x.l.length c] 25)).heap.size := by simp
    have hx0 := hx.below hb0
    have hlen : x.l.length ≤ 2199023255552 := hx.kids.len
    have cL := fun W => leaf_any W x p c hx.wf
    have cB := fun W => rbareN_any W x p c false false false true
    have hpe := pat_eq x
    have IH := Lib.hid ih
    clear ih hx
    cases hleaf : leafB x
    case true =>
      rw [hleaf] at cL
      rw [hleaf, Bool.true_or] at hpe
      have HP := Lib.hid hpe
      clear hleaf hpe cB
      go_enter Tryz.func46, Tryz.ntmps46
      go_wp2_with (go_at_call 66; refine (cL _).mono ?_; rintro e w1 ⟨rfl, hb1⟩)
      go_ret
      exact ⟨by rw [HP.out]; rfl, hb0.trans (hb1.mono hb0.size)⟩
    rw [hleaf] at cL
    rw [hleaf, Bool.false_or] at hpe
    clear hleaf
    by_cases hc : x.k = 10 ∨ (x.k ≠ 10 ∧ x.k = 9 ∧ (x.l.length : Int) = 2)
    case neg =>
      have hf : (x.k == 10 || (x.k == 9 && (x.l.length : Int) == 2)) = false := by
        rw [Bool.eq_false_iff]; intro h; simp only [Bool.or_eq_true, Bool.and_eq_true, beq_iff_eq] at h; omega
      rw [hf, Bool.false_and, Bool.false_and] at hpe
      have HP := Lib.hid hpe
      have g10 : (x.k != 10) = true := by rw [bne_iff_ne]; omega
      by_cases h9 : x.k = 9
      case' pos =>
        have g9 : (x.k != 9) = false := by rw [bne_eq_false_iff_eq]; omega
        have gl : ((x.l.length : Int) != 2) = true := by rw [bne_iff_ne]; omega
      case' neg =>
        have g9 : (x.k != 9) = true := by rw [bne_iff_ne]; omega
      all_goals
        clear hpe hf hc h9 cB
        go_enter Tryz.func46, Tryz.ntmps46
        go_wp2_with (go_at_call 66; refine (cL _).mono ?_; rintro e w1 ⟨rfl, hb1⟩; have e0 := (hb1.cell (p := ⟨w.heap.size, 0, none⟩) (cell_block e0)).trans e0; have e4 := (hb1.cell (p := ⟨w.heap.size, 4, none⟩) (cell_block e4)).trans e4)
        go_ret
        exact ⟨by rw [HP.out]; rfl, hb0.trans (hb1.mono hb0.size)⟩
    have ht : (x.k == 10 || (x.k == 9 && (x.l.length : Int) == 2)) = true := by
      simp only [Bool.or_eq_true, Bool.and_eq_true, beq_iff_eq]; omega
    rw [ht, Bool.true_and] at hpe
    clear ht
    cases hb : bareB x false false false true
    case' false =>
      rw [hb] at cB
      rw [hb, Bool.false_and] at hpe
    case' true =>
      rw [hb] at cB
      rw [hb, Bool.true_and] at hpe
    all_goals
      have HP := Lib.hid hpe
      clear hb hpe
      rcases hc with hc | ⟨hc, hc9, hcl⟩
      case' inl =>
        have g10 : (x.k != 10) = false := by rw [bne_eq_false_iff_eq]; omega
        clear hc
      case' inr =>
        have g10 : (x.k != 10) = true := by rw [bne_iff_ne]; omega
        have g9 : (x.k != 9) = false := by rw [bne_eq_false_iff_eq]; omega
        have gl : ((x.l.length : Int) != 2) = false := by rw [bne_eq_false_iff_eq]; omega
        clear hc hc9 hcl
      all_goals
        go_enter Tryz.func46, Tryz.ntmps46
        go_wp2_with (first
          | (go_at_call 66; refine (cL _).mono ?_; rintro e w1 ⟨rfl, hb1⟩; have e0 := (hb1.cell (p := ⟨w.heap.size, 0, none⟩) (cell_block e0)).trans e0; have e1 := (hb1.cell (p := ⟨w.heap.size, 1, none⟩) (cell_block e1)).trans e1; have e2 := (hb1.cell (p := ⟨w.heap.size, 2, none⟩) (cell_block e2)).trans e2; have e3 := (hb1.cell (p := ⟨w.heap.size, 3, none⟩) (cell_block e3)).trans e3; have e4 := (hb1.cell (p := ⟨w.heap.size, 4, none⟩) (cell_block e4)).trans e4)
          | (go_at_call 67; refine (cB _).mono ?_; rintro e w2 ⟨rfl, hb2⟩; have e4 := (hb2.cell (p := ⟨w.heap.size, 4, none⟩) (cell_block e4)).trans e4))
    all_goals have hB2 : Below w.heap.size w w2 := hb0.trans ((hb1.trans (hb2.mono hb1.size)).mono hb0.size)
    all_goals have hx2 := (hx0.below hb1).below hb2
    any_goals
      go_ret
      exact ⟨by rw [HP.out]; rfl, hB2⟩
    all_goals
      clear hb0 hz0 hx0 hb1 hb2 g10
      go_loopw [3] (fun i wr => ∃ k : Nat, k ≤ x.l.length ∧ i = .int .i64 k ∧ Tr.pat.patl (x.l.drop k) = Tr.pat.patl x.l ∧ Below w2.heap.size w2 wr) (fun i _ => x.l.length - (intOf i).toNat)
      case atStart => exact ⟨0, Nat.zero_le _, rfl, rfl, Below.refl _ _⟩
      case round =>
        obtain ⟨k, hk, rfl, hrest, hbr⟩ := hrel
        have hxr := hx2.below hbr
        have hbw := hB2.trans (hbr.mono hB2.size)
        have e4r := (hbr.cell (p := ⟨w.heap.size, 4, none⟩) (cell_block e4)).trans e4
        by_cases hlt : k < x.l.length
        · obtain ⟨g, o, kv, rfl, _, hnode, hkid⟩ := hxr.kids.at hlt
          have cK := IH.out x.l[k] (List.getElem_mem hlt) wr kv hkid
          rw [patl_take hlt] at hrest
          obtain ⟨c0, c1, c2', c3, c4⟩ := hnode
          generalize x.l[k] = u at *
          generalize u.pat = q at *
          have HN := Lib.hid hrest
          clear hrest hkid hxr hx2 e4
          cases q
          · go_wp2_with (go_at_call 46; refine cK.mono ?_; rintro e w5 ⟨rfl, hb5⟩)
            go_ret
            exact ⟨by rw [HP.out, ← HN.out]; rfl, hbw.trans (hb5.mono hbw.size)⟩
          · go_wp2_with (go_at_call 46; refine cK.mono ?_; rintro e w5 ⟨rfl, hb5⟩)
            go_roundw
            case rel => exact ⟨k + 1, hlt, by go_num, by rw [← HN.out]; rfl, hbr.trans (hb5.mono hbr.size)⟩
            case measure => simp [intOf]; omega
        · rw [List.drop_eq_nil_of_le (by omega), Tr.pat.patl] at hrest
          have HN := Lib.hid hrest
          clear hrest hxr hx2 e4
          go_wp2
          go_ret
          exact ⟨by rw [HP.out, ← HN.out]; rfl, hbw⟩

def patB (x : Tr) : Bool := fitsB x && x.pat
set_option maxHeartbeats 1000000 in
set_option maxRecDepth 100000 in
theorem npattern_any {F : Nat → Prop} {x : Tr} {w : World} {sv : Value} (hx : TrV F w x sv) :
    Calls Tryz.prog 24 #[.agg #[.int .i8 x.k, .int .i64 x.n, .string x.s, .string x.t, sv]] w fun e w' => e = .returned (.bool (patB x)) ∧ Below w.heap.size w w' := by
  obtain ⟨p, c, rfl⟩ := hx.kids.slice
  obtain ⟨e0, e1, e2, e3, e4⟩ := box5 w (.int .i8 x.k) (.int .i64 x.n) (.string x.s) (.string x.t) (.slice p x.l.length c) 25
  have hb0 := alloc_below w (.cells #[.int .i8 x.k, .int .i64 x.n, .string x.s, .string x.t, .slice p x.l.length c] 25)
  have hx0 := hx.below hb0
  have cF := nfits_any hx0
  have cP := fun W hb => npat_any x W _ (hx0.below (w' := W) hb)
  unfold patB
  clear hx hx0
  cases hf : fitsB x
  all_goals
    rw [hf] at cF
    clear hf
    go_enter Tryz.func24, Tryz.ntmps24
    go_wp2_with (first
      | (go_at_call 45; refine cF.mono ?_; rintro e w1 ⟨rfl, hb1⟩; have e0 := (hb1.cell (p := ⟨w.heap.size, 0, none⟩) (cell_block e0)).trans e0; have e1 := (hb1.cell (p := ⟨w.heap.size, 1, none⟩) (cell_block e1)).trans e1; have e2 := (hb1.cell (p := ⟨w.heap.size, 2, none⟩) (cell_block e2)).trans e2; have e3 := (hb1.cell (p := ⟨w.heap.size, 3, none⟩) (cell_block e3)).trans e3; have e4 := (hb1.cell (p := ⟨w.heap.size, 4, none⟩) (cell_block e4)).trans e4)
      | (go_at_call 46; refine (cP _ hb1).mono ?_; rintro e w2 ⟨rfl, hb2⟩))
  · go_ret
    exact ⟨rfl, hb0.trans (hb1.mono hb0.size)⟩
  · go_ret
    exact ⟨by simp, hb0.trans ((hb1.trans (hb2.mono hb1.size)).mono hb0.size)⟩
end Go.Proofs.YtjnmdbfijdnaiaaGreatDoor
