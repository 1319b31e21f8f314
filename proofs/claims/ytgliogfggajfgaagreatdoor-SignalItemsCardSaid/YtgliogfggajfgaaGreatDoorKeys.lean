/-
  slices.Sorted(maps.Keys(m)) at maps with int keys, by the shelf's contracts: a new slice of the keys, rising. Conditions: the map's block is known, at most 2^40 entries.
-/
import Derived.Test.YtgliogfggajfgaaGreatDoorMap
import Derived.Test.YtgliogfggajfgaaGreatDoorShelf
namespace Go.Proofs.YtgliogfggajfgaaGreatDoor
open Go.RowKit Go.Maps Go.Sort Go.Shelf

theorem intKeys_enc (l : List (Int × Value)) : intKeys (encL l) = l.map (·.1) := by
  simp only [encL, intKeys, List.map_map]
  rfl
theorem sorted_of_perm {ss : List Int} {l : List (Int × Value)} (hs : Srt l) (hp : ss.Perm (l.map (·.1))) : ss.mergeSort (fun x y => decide (x ≤ y)) = l.map (·.1) := by
  have hs' : (l.map (·.1)).Pairwise (fun x y : Int => x ≤ y) := by
    rw [List.pairwise_map]
    exact hs.imp fun h => Int.le_of_lt h
  have h1 := List.pairwise_mergeSort (le := fun x y : Int => decide (x ≤ y)) (by intro a b c h1 h2; simp at *; omega) (by intro a b; simp; omega) ss
  have h2 : (ss.mergeSort (fun x y => decide (x ≤ y))).Perm (l.map (·.1)) := (List.mergeSort_perm ss _).trans hp
  refine h2.eq_of_pairwise (le := fun x y : Int => x ≤ y) ?_ ?_ hs'
  · intro a b _ _ h1 h2; omega
  · exact h1.imp fun h => by simpa using h

theorem sorts (m : Nat) : AnyZI.SortsIn Tryz.prog Tryz.sortedA_ren Fence.wide m :=
  ⟨fun blk off cap ss W hH hblk hsz => callsIn_wide.2 (AnyM.slices_Sort_int Tryz.sortA blk off cap ss W hH hblk hsz),
   fun p cap W => callsIn_wide.2 (AnyM.slices_Sort_int_none Tryz.sortA p cap W)⟩

theorem keys_B (mb : Option Nat) (W : World) : Calls Tryz.prog 99 #[.map mb] W fun e w' => e = .returned (.func (.func 119) #[] #[.pointer (some ⟨W.heap.size, 0, none⟩)]) ∧ w' = W.alloc (.cells #[.map mb] 102) := callsIn_wide.1 (AnyZI.keys_in Tryz.keysB Fence.wide 5 trivial rfl mb W)
set_option maxHeartbeats 1000000 in
theorem sortedKeys_B (bx b N : Nat) (l : List (Int × Value)) (W : World) (hbx : bx < W.heap.size) (hm : W.cell? ⟨bx, 0, none⟩ = some (.map (some b))) (hI : IMap 3 W b N l) (hN : N ≤ BN) : Calls Tryz.prog 98 #[.func (.func 119) #[] #[.pointer (some ⟨bx, 0, none⟩)]] W fun e w' => ∃ v, e = .returned v ∧ w'.ownsRow W.heap.size 3 1 v l.length ((l.map (·.1)).map (Value.int .i64)) ∧ (v = .slice none 0 0 ↔ l = []) ∧ Below W.heap.size W w' := by
  have hlen := hI.length_le
  have hBN : BN = 1099511627776 := rfl
  have hsz : Maps.size (encL l) = l.length := by simp [encL, Maps.size]
  have hseq : SeqGives Fence.wide 2 Tryz.prog 119 #[.pointer (some ⟨bx, 0, none⟩)] encZ (fun ss => ss.Perm (intKeys (encL l))) (Maps.size (encL l)) W := AnyZI.keys_gives (ρ := Tryz.keysB_ren) { Tryz.keysB with } Fence.wide _ trivial rfl (by omega) bx b N (encL l) W hbx hm hI.own
  have cS := AnyZI.sorted_in Tryz.sortedA Fence.wide 5 trivial trivial trivial trivial rfl (by omega) (sorts _) (enters_of Tryz.func118 (by kernel_rfl) rfl) 119 #[.pointer (some ⟨bx, 0, none⟩)] trivial (enters_of Tryz.func119 (by kernel_rfl) rfl) _ (Maps.size (encL l)) (by rw [hsz]; unfold maxLen; omega) (by rw [hsz]; omega) W hseq
  refine (callsIn_wide.1 cS).mono ?_
  rintro e w' ⟨v, ss, rfl, hp, hrow, hnil, hb⟩
  rw [intKeys_enc] at hp
  have hl : ss.length = l.length := by simpa using hp.length_eq
  rw [sorted_of_perm hI.srt hp, hl] at hrow
  refine ⟨v, rfl, hrow, hnil.trans ⟨fun h => List.eq_nil_of_length_eq_zero (by rw [← hl, h]; rfl), fun h => List.eq_nil_of_length_eq_zero (by rw [hl, h]; rfl)⟩, hb⟩
set_option maxHeartbeats 1000000 in
theorem sortedKeys_B_nil (bx : Nat) (W : World) (hbx : bx < W.heap.size) (hm : W.cell? ⟨bx, 0, none⟩ = some (.map none)) : Calls Tryz.prog 98 #[.func (.func 119) #[] #[.pointer (some ⟨bx, 0, none⟩)]] W fun e w' => e = .returned (.slice none 0 0) ∧ Below W.heap.size W w' := by
  have hseq : SeqGives Fence.wide 2 Tryz.prog 119 #[.pointer (some ⟨bx, 0, none⟩)] encZ (fun ss : List Int => ss = []) 0 W := AnyZI.keys_gives_nil (ρ := Tryz.keysB_ren) { Tryz.keysB with } Fence.wide _ trivial rfl bx W hbx hm
  have cS := AnyZI.sorted_in Tryz.sortedA Fence.wide 5 trivial trivial trivial trivial rfl (by omega) (sorts _) (enters_of Tryz.func118 (by kernel_rfl) rfl) 119 #[.pointer (some ⟨bx, 0, none⟩)] trivial (enters_of Tryz.func119 (by kernel_rfl) rfl) _ 0 (Nat.zero_le _) (by omega) W hseq
  refine (callsIn_wide.1 cS).mono ?_
  rintro e w' ⟨v, ss, rfl, rfl, hrow, hnil, hb⟩
  exact ⟨by rw [hnil.2 rfl], hb⟩

theorem keys_S (mb : Option Nat) (W : World) : Calls Tryz.prog 101 #[.map mb] W fun e w' => e = .returned (.func (.func 120) #[] #[.pointer (some ⟨W.heap.size, 0, none⟩)]) ∧ w' = W.alloc (.cells #[.map mb] 77) := callsIn_wide.1 (AnyZI.keys_in Tryz.keysS Fence.wide 5 trivial rfl mb W)
set_option maxHeartbeats 1000000 in
theorem sortedKeys_S (bx b N : Nat) (l : List (Int × Value)) (W : World) (hbx : bx < W.heap.size) (hm : W.cell? ⟨bx, 0, none⟩ = some (.map (some b))) (hI : IMap 3 W b N l) (hN : N ≤ BN) : Calls Tryz.prog 98 #[.func (.func 120) #[] #[.pointer (some ⟨bx, 0, none⟩)]] W fun e w' => ∃ v, e = .returned v ∧ w'.ownsRow W.heap.size 3 1 v l.length ((l.map (·.1)).map (Value.int .i64)) ∧ (v = .slice none 0 0 ↔ l = []) ∧ Below W.heap.size W w' := by
  have hlen := hI.length_le
  have hBN : BN = 1099511627776 := rfl
  have hsz : Maps.size (encL l) = l.length := by simp [encL, Maps.size]
  have hseq : SeqGives Fence.wide 2 Tryz.prog 120 #[.pointer (some ⟨bx, 0, none⟩)] encZ (fun ss => ss.Perm (intKeys (encL l))) (Maps.size (encL l)) W := AnyZI.keys_gives (ρ := Tryz.keysS_ren) { Tryz.keysS with } Fence.wide _ trivial rfl (by omega) bx b N (encL l) W hbx hm hI.own
  have cS := AnyZI.sorted_in Tryz.sortedA Fence.wide 5 trivial trivial trivial trivial rfl (by omega) (sorts _) (enters_of Tryz.func118 (by kernel_rfl) rfl) 120 #[.pointer (some ⟨bx, 0, none⟩)] trivial (enters_of Tryz.func120 (by kernel_rfl) rfl) _ (Maps.size (encL l)) (by rw [hsz]; unfold maxLen; omega) (by rw [hsz]; omega) W hseq
  refine (callsIn_wide.1 cS).mono ?_
  rintro e w' ⟨v, ss, rfl, hp, hrow, hnil, hb⟩
  rw [intKeys_enc] at hp
  have hl : ss.length = l.length := by simpa using hp.length_eq
  rw [sorted_of_perm hI.srt hp, hl] at hrow
  refine ⟨v, rfl, hrow, hnil.trans ⟨fun h => List.eq_nil_of_length_eq_zero (by rw [← hl, h]; rfl), fun h => List.eq_nil_of_length_eq_zero (by rw [hl, h]; rfl)⟩, hb⟩
set_option maxHeartbeats 1000000 in
theorem sortedKeys_S_nil (bx : Nat) (W : World) (hbx : bx < W.heap.size) (hm : W.cell? ⟨bx, 0, none⟩ = some (.map none)) : Calls Tryz.prog 98 #[.func (.func 120) #[] #[.pointer (some ⟨bx, 0, none⟩)]] W fun e w' => e = .returned (.slice none 0 0) ∧ Below W.heap.size W w' := by
  have hseq : SeqGives Fence.wide 2 Tryz.prog 120 #[.pointer (some ⟨bx, 0, none⟩)] encZ (fun ss : List Int => ss = []) 0 W := AnyZI.keys_gives_nil (ρ := Tryz.keysS_ren) { Tryz.keysS with } Fence.wide _ trivial rfl bx W hbx hm
  have cS := AnyZI.sorted_in Tryz.sortedA Fence.wide 5 trivial trivial trivial trivial rfl (by omega) (sorts _) (enters_of Tryz.func118 (by kernel_rfl) rfl) 120 #[.pointer (some ⟨bx, 0, none⟩)] trivial (enters_of Tryz.func120 (by kernel_rfl) rfl) _ 0 (Nat.zero_le _) (by omega) W hseq
  refine (callsIn_wide.1 cS).mono ?_
  rintro e w' ⟨v, ss, rfl, rfl, hrow, hnil, hb⟩
  exact ⟨by rw [hnil.2 rfl], hb⟩

end Go.Proofs.YtgliogfggajfgaaGreatDoor
