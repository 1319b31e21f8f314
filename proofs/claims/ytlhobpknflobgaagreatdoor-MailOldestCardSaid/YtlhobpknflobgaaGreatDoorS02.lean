/-
  Names: pleach/atoms.is, Prefix, fits, May, Name; pleachref02.letter, Prefix, May, Name; ints.May, pleachref01.May. Conditions: the table of letters lies as 'Letters' says; a text is not longer than memory lets.
  The reference's names: pleachref02.letter, Prefix, May, Name; ints.May, pleachref01.May. Conditions: a text is not longer than memory lets.
-/
import Derived.Test.YtlhobpknflobgaaGreatDoorS01
import Derived.StillTailTactics
import Derived.Deep.RegionWith
import Derived.Deep.RegionHeld3
import Derived.Deep.RegionLaw
namespace Go.Proofs.YtlhobpknflobgaaGreatDoor
open Go.RowKit

theorem ret_bool {a b : Bool} (h : a = b) : Ending.returned (.bool a) = .returned (.bool b) := by rw [h]
theorem ret_i64 {a b : Int} (h : a = b) : Ending.returned (.int .i64 a) = .returned (.int .i64 b) := by rw [h]

def letB (c : Int) : Bool := (decide (97 ≤ c) && decide (c ≤ 122)) || (decide (65 ≤ c) && decide (c ≤ 90)) || (decide (48 ≤ c) && decide (c ≤ 57)) || (c == 95)
theorem letB_iff (c : Int) : letB c = true ↔ (97 ≤ c ∧ c ≤ 122) ∨ (65 ≤ c ∧ c ≤ 90) ∨ (48 ≤ c ∧ c ≤ 57) ∨ c = 95 := by
  simp [letB, or_assoc]
def inB (c : Int) (L : List (Int × Int)) : Bool := L.any fun x => decide (x.1 ≤ c) && decide (c ≤ x.2)
def LR : List (Int × Int) := [(97, 122), (65, 90), (48, 57), (95, 95)]
theorem inB_LR (c : Int) : inB c LR = letB c := by
  rw [Bool.eq_iff_iff, letB_iff]
  simp only [inB, LR, List.any_cons, List.any_nil, Bool.or_false, Bool.or_eq_true, Bool.and_eq_true, decide_eq_true_eq]
  omega
theorem inB_small (c : Int) : inB c (LR.take 1) = (decide (97 ≤ c) && decide (c ≤ 122)) := by simp [inB, LR]
theorem inB_great (c : Int) : inB c ((LR.drop 1).take 1) = (decide (65 ≤ c) && decide (c ≤ 90)) := by simp [inB, LR]
theorem inB_line (c : Int) : inB c (LR.drop 3) = (c == 95) := by
  rw [Bool.eq_iff_iff]
  simp [inB, LR]; omega

/-- The table of letters, where it lies. -/
structure Letters (w : World) : Prop where
  c0 : w.cell? ⟨0, 0, none⟩ = some (.int .u8 97)
  c1 : w.cell? ⟨0, 1, none⟩ = some (.int .u8 122)
  c2 : w.cell? ⟨0, 2, none⟩ = some (.int .u8 65)
  c3 : w.cell? ⟨0, 3, none⟩ = some (.int .u8 90)
  c4 : w.cell? ⟨0, 4, none⟩ = some (.int .u8 48)
  c5 : w.cell? ⟨0, 5, none⟩ = some (.int .u8 57)
  c6 : w.cell? ⟨0, 6, none⟩ = some (.int .u8 95)
  c7 : w.cell? ⟨0, 7, none⟩ = some (.int .u8 95)
theorem Letters.lt {w : World} (h : Letters w) : 0 < w.heap.size := cell_block h.c0
theorem Letters.below {w w' : World} (h : Letters w) {B : Nat} (hB : 0 < B) (hb : Below B w w') : Letters w' :=
  ⟨(hb.cell (p := ⟨0, 0, none⟩) hB).trans h.c0, (hb.cell (p := ⟨0, 1, none⟩) hB).trans h.c1, (hb.cell (p := ⟨0, 2, none⟩) hB).trans h.c2, (hb.cell (p := ⟨0, 3, none⟩) hB).trans h.c3, (hb.cell (p := ⟨0, 4, none⟩) hB).trans h.c4, (hb.cell (p := ⟨0, 5, none⟩) hB).trans h.c5, (hb.cell (p := ⟨0, 6, none⟩) hB).trans h.c6, (hb.cell (p := ⟨0, 7, none⟩) hB).trans h.c7⟩
theorem Letters.under {w w' : World} (h : Letters w) (hb : Below w.heap.size w w') : Letters w' := h.below h.lt hb
/-- A part of the table, as a slice. -/
def Part (w : World) (o : Nat) (L : List (Int × Int)) : Prop := ∀ k (hk : k < L.length), w.cell? ⟨0, o + k * 2, none⟩ = some (.int .u8 L[k].1) ∧ w.cell? ⟨0, o + k * 2 + 1, none⟩ = some (.int .u8 L[k].2)
theorem Letters.whole {w : World} (h : Letters w) : Part w 0 LR := fun k hk => by
  match k, hk with
  | 0, _ => exact ⟨h.c0, h.c1⟩
  | 1, _ => exact ⟨h.c2, h.c3⟩
  | 2, _ => exact ⟨h.c4, h.c5⟩
  | 3, _ => exact ⟨h.c6, h.c7⟩
theorem Letters.small {w : World} (h : Letters w) : Part w 0 (LR.take 1) := fun k hk => by
  match k, hk with
  | 0, _ => exact ⟨h.c0, h.c1⟩
theorem Letters.great {w : World} (h : Letters w) : Part w 2 ((LR.drop 1).take 1) := fun k hk => by
  match k, hk with
  | 0, _ => exact ⟨h.c2, h.c3⟩
theorem Letters.line {w : World} (h : Letters w) : Part w 6 (LR.drop 3) := fun k hk => by
  match k, hk with
  | 0, _ => exact ⟨h.c6, h.c7⟩

set_option maxHeartbeats 1000000 in
set_option maxRecDepth 100000 in
theorem is_any {w : World} {o cap : Nat} {L : List (Int × Int)} (hP : Part w o L) (hlen : L.length ≤ 4) (hw : 0 < w.heap.size) (c : Int) :
    Calls Tryz.prog 164 #[.int .u8 c, .slice (some ⟨0, o, none⟩) L.length cap] w fun e w' => e = .returned (.bool (inB c L)) ∧ Below w.heap.size w w' := by
  have HP := Lib.hid hP
  clear hP
  go_enter Tryz.func164, Tryz.ntmps164
  go_wp2
  go_loopw [9] (fun i wr => ∃ k : Nat, k ≤ L.length ∧ i = .int .i64 k ∧ inB c (L.take k) = false ∧ Below w.heap.size w wr) (fun i _ => L.length - (intOf i).toNat)
  case atStart => exact ⟨0, Nat.zero_le _, rfl, rfl, Below.refl _ _⟩
  case round =>
    obtain ⟨k, hk, rfl, hno, hbr⟩ := hrel
    have HNO := Lib.hid hno
    clear hno
    by_cases hlt : k < L.length
    · obtain ⟨e0, e1⟩ := HP.out k hlt
      have e0 := (hbr.cell (p := ⟨0, o + k * 2, none⟩) hw).trans e0
      have e1 := (hbr.cell (p := ⟨0, o + k * 2 + 1, none⟩) hw).trans e1
      have hnext : inB c (L.take (k + 1)) = (decide (L[k].1 ≤ c) && decide (c ≤ L[k].2)) := by
        have := HNO.out
        unfold inB at this ⊢
        rw [List.take_succ_eq_append_getElem hlt, List.any_append, this]
        simp
      have hall : (decide (L[k].1 ≤ c) && decide (c ≤ L[k].2)) = true → inB c L = true := fun h => by
        unfold inB
        exact List.any_eq_true.2 ⟨_, List.getElem_mem hlt, h⟩
      generalize L[k] = x at *
      have HN := Lib.hid hnext
      have HALL := Lib.hid hall
      clear hnext hall
      by_cases h1 : x.1 ≤ c
      · by_cases h2 : c ≤ x.2
        · go_wp2
          go_ret
          exact ⟨ret_bool (HALL.out (by simp [h1, h2])).symm, (hbr.alloc hbr.size _)⟩
        · go_wp2
          go_roundw
          case rel => exact ⟨k + 1, hlt, by go_num, by rw [HN.out]; simp [h2], (hbr.alloc hbr.size _)⟩
          case measure => simp [intOf]; omega
      · go_wp2
        go_roundw
        case rel => exact ⟨k + 1, hlt, by go_num, by rw [HN.out]; simp [h1], (hbr.alloc hbr.size _)⟩
        case measure => simp [intOf]; omega
    · go_wp2
      go_ret
      have : L.take k = L := List.take_of_length_le (by omega)
      exact ⟨ret_bool (by have h := HNO.out; rw [this] at h; exact h.symm), hbr⟩

/-- How far a text is letters. -/
def pfx (s : ByteArray) : Nat := (s.data.toList.takeWhile fun c => letB c.toNat).length
theorem takeWhile_len {α : Type} (p : α → Bool) : ∀ (l : List α) (k : Nat), k ≤ l.length → (l.take k).all p = true → (∀ h : k < l.length, p l[k] = false) → (l.takeWhile p).length = k
  | [], k, hk, _, _ => by simp at hk; simp [hk]
  | x :: r, 0, _, _, h => by
    have := h (by simp)
    simp only [List.getElem_cons_zero] at this
    simp [this]
  | x :: r, k + 1, hk, ha, h => by
    simp only [List.take_succ_cons, List.all_cons, Bool.and_eq_true] at ha
    rw [List.takeWhile_cons, if_pos ha.1, List.length_cons, takeWhile_len p r k (by simpa using hk) ha.2 fun hl => by
      have := h (by simpa using hl)
      simpa using this]
theorem size_list (s : ByteArray) : s.data.toList.length = s.size := by show _ = s.data.size; exact Array.length_toList
theorem pfx_of {s : ByteArray} {k : Nat} (hk : k ≤ s.size) (ha : (s.data.toList.take k).all (fun c => letB c.toNat) = true) (hn : ∀ h : k < s.size, letB s[k].toNat = false) : pfx s = k :=
  takeWhile_len _ _ k (by rw [size_list]; exact hk) ha fun h => by
    have h' : k < s.size := by rw [size_list] at h; exact h
    have := hn h'
    simpa [ByteArray.getElem_eq_getElem_data] using this
theorem all_succ {s : ByteArray} {k : Nat} (h : k < s.size) (ha : (s.data.toList.take k).all (fun c => letB c.toNat) = true) (hl : letB s[k].toNat = true) : (s.data.toList.take (k + 1)).all (fun c => letB c.toNat) = true := by
  rw [List.take_succ_eq_append_getElem (by rw [size_list]; exact h), List.all_append, ha]
  simpa [ByteArray.getElem_eq_getElem_data] using hl

def wordB (s : ByteArray) : Bool := decide (1 ≤ s.size) && decide (s.size ≤ 32) && pfx s == s.size
def fb (s : ByteArray) : Int := ((s.data.toList.headD 0).toNat : Int)
theorem fb_eq {s : ByteArray} (h : 0 < s.size) : (s[0].toNat : Int) = fb s := by
  unfold fb
  cases hs : s.data.toList with
  | nil => have := size_list s; rw [hs] at this; simp at this; omega
  | cons c r =>
    have : s[0] = c := by
      rw [ByteArray.getElem_eq_getElem_data]
      rw [← Array.getElem_toList]
      simp [hs]
    rw [this]; rfl
/-- May a text be an atom? a name? -/
def mayA (s : ByteArray) : Bool := wordB s && (decide (97 ≤ fb s) && decide (fb s ≤ 122))
def nameA (s : ByteArray) : Bool := wordB s && ((decide (65 ≤ fb s) && decide (fb s ≤ 90)) || fb s == 95)

set_option maxHeartbeats 1000000 in
set_option maxRecDepth 100000 in
theorem prefix_any {w : World} (hL : Letters w) (s : ByteArray) (hs : s.size ≤ 140737488355328) :
    Calls Tryz.prog 199 #[.string s] w fun e w' => e = .returned (.int .i64 (pfx s)) ∧ Below w.heap.size w w' := by
  have hw := hL.lt
  have cI := fun W (hb : Below w.heap.size w W) c => is_any (cap := 4) (hL.under hb).whole (by decide) (Nat.lt_of_lt_of_le hw hb.size) c
  clear hL
  go_enter Tryz.func199, Tryz.ntmps199
  go_wp2
  go_loopw [6] (fun i wr => ∃ k : Nat, k ≤ s.size ∧ i = .int .i64 k ∧ (s.data.toList.take k).all (fun c => letB c.toNat) = true ∧ Below w.heap.size w wr) (fun i _ => s.size - (intOf i).toNat)
  case atStart => exact ⟨0, Nat.zero_le _, rfl, rfl, Below.refl _ _⟩
  case round =>
    obtain ⟨k, hk, rfl, hall, hbr⟩ := hrel
    have HALL := Lib.hid hall
    clear hall
    by_cases hlt : k < s.size
    · have hbd := below_drewN hbr 1
      cases hl : letB s[k].toNat
      all_goals
        have HLB := Lib.hid hl
        clear hl
        go_wp2
        go_still_tail 4, (by kernel_rfl)
        change wpList _ _ _ _ _ (wr.drewN 1)
        generalize wr.drewN 1 = w4 at hbd ⊢
        go_wp2_with (go_at_call 164; refine (cI _ hbd _).mono ?_; rintro e w5 ⟨rfl, hb5⟩; rw [inB_LR, HLB.out])
      · go_ret
        exact ⟨ret_i64 (by rw [pfx_of hk HALL.out fun h => HLB.out]), hbd.trans (hb5.mono hbd.size)⟩
      · go_roundw
        case rel => exact ⟨k + 1, hlt, by go_num, all_succ hlt HALL.out HLB.out, hbd.trans (hb5.mono hbd.size)⟩
        case measure => simp [intOf]; omega
    · go_wp2
      go_ret
      exact ⟨ret_i64 (by rw [pfx_of hk HALL.out fun h => absurd h hlt]; congr 1; omega), hbr⟩

set_option maxHeartbeats 1000000 in
set_option maxRecDepth 100000 in
theorem fits_any {w : World} (hL : Letters w) (s : ByteArray) (hs : s.size ≤ 140737488355328) :
    Calls Tryz.prog 163 #[.string s] w fun e w' => e = .returned (.bool (wordB s)) ∧ Below w.heap.size w w' := by
  have cP := prefix_any hL s hs
  clear hL
  by_cases h1 : 1 ≤ s.size
  · by_cases h2 : s.size ≤ 32
    · go_enter Tryz.func163, Tryz.ntmps163
      go_wp2_with (go_at_call 199; refine cP.mono ?_; rintro e w5 ⟨rfl, hb5⟩)
      go_ret
      refine ⟨ret_bool ?_, hb5⟩
      unfold wordB
      rw [decide_eq_true h1, decide_eq_true h2, Bool.eq_iff_iff]
      simp; omega
    · go_enter Tryz.func163, Tryz.ntmps163
      go_wp2
      go_ret
      exact ⟨ret_bool (by unfold wordB; rw [decide_eq_false h2]; simp), Below.refl _ _⟩
  · go_enter Tryz.func163, Tryz.ntmps163
    go_wp2
    go_ret
    exact ⟨ret_bool (by unfold wordB; rw [decide_eq_false h1]; simp), Below.refl _ _⟩

set_option maxHeartbeats 1000000 in
set_option maxRecDepth 100000 in
theorem mayA_any {w : World} (hL : Letters w) (s : ByteArray) (hs : s.size ≤ 140737488355328) :
    Calls Tryz.prog 162 #[.string s] w fun e w' => e = .returned (.bool (mayA s)) ∧ Below w.heap.size w w' := by
  have cF := fun W (hb : Below w.heap.size w W) => fits_any (hL.under hb) s hs
  have cI := fun W (hb : Below w.heap.size w W) c => is_any (cap := 4) (hL.under hb).small (by decide) (Nat.lt_of_lt_of_le hL.lt hb.size) c
  have hd : Below w.heap.size w w.drew := below_drewN (Below.refl _ _) 1
  have hS0 := hL.c0
  have hmv := fun W (hb : Below w.heap.size w W) => (hL.under hb).c0
  clear hL
  cases hw : wordB s
  · have HW := Lib.hid hw
    rw [hw] at cF
    clear hw
    go_enter Tryz.func162, Tryz.ntmps162
    go_wp2_with fail
    refine wp_region_any (by kernel_rfl) ?_
    change wpAny _ _ _ _ _ _ _ (World.drew _)
    refine wpAny_take (i := 0) (v := ?_) rfl (by kernel_rfl) (by kernel_rfl) (by kernel_rfl) (fun _ _ _ h => h) (Or.inl ⟨by rfl, ?_⟩) ?_
    rotate_left 1
    (intro w; go_simp; try with_reducible rfl)
    (try simp only [List.getElem_toArray, List.getElem_cons_zero, Act.put, List.setIfInBounds_toArray, List.set_cons_zero, List.set_cons_succ])
    refine wpAny_ready (rs := [1]) (by kernel_rfl) (by simp) ?_
    refine AllReady.cons rfl (fun K hK => ?_) AllReady.nil
    go_simp
    go_wp2_with (go_at_call 163; refine (cF _ hd).mono ?_; rintro e w5 ⟨rfl, hb5⟩; have hb5' := hd.trans (hb5.mono hd.size))
    (try (refine hK _ _ ?_; clear hK K))
    refine wpAny_take (i := 2) (v := ?_) rfl (by kernel_rfl) (by kernel_rfl) (by kernel_rfl) (fun _ _ _ h => h) (Or.inl ⟨by rfl, ?_⟩) ?_
    rotate_left 1
    (intro w; go_simp; try with_reducible rfl)
    (try simp only [List.getElem_toArray, List.getElem_cons_succ, List.getElem_cons_zero, Act.put, List.setIfInBounds_toArray, List.set_cons_zero, List.set_cons_succ])
    refine wpAny_take (i := 3) (v := undef) rfl (by kernel_rfl) (by kernel_rfl) (by kernel_rfl) (fun _ _ _ h => h) (Or.inr ⟨by rfl, rfl⟩) ?_
    (try simp only [List.getElem_toArray, List.getElem_cons_succ, List.getElem_cons_zero, Act.put, List.setIfInBounds_toArray, List.set_cons_zero, List.set_cons_succ])
    refine wpAny_take (i := 4) (v := undef) rfl (by kernel_rfl) (by kernel_rfl) (by kernel_rfl) (fun _ _ _ h => h) (Or.inr ⟨by rfl, rfl⟩) ?_
    (try simp only [List.getElem_toArray, List.getElem_cons_succ, List.getElem_cons_zero, Act.put, List.setIfInBounds_toArray, List.set_cons_zero, List.set_cons_succ])
    refine wpAny_take (i := 5) (v := undef) rfl (by kernel_rfl) (by kernel_rfl) (by kernel_rfl) (fun _ _ _ h => h) (Or.inr ⟨by rfl, rfl⟩) ?_
    (try simp only [List.getElem_toArray, List.getElem_cons_succ, List.getElem_cons_zero, Act.put, List.setIfInBounds_toArray, List.set_cons_zero, List.set_cons_succ])
    refine wpAny_take (i := 6) (v := undef) rfl (by kernel_rfl) (by kernel_rfl) (by kernel_rfl) (fun _ _ _ h => h) (Or.inr ⟨by rfl, rfl⟩) ?_
    (try simp only [List.getElem_toArray, List.getElem_cons_succ, List.getElem_cons_zero, Act.put, List.setIfInBounds_toArray, List.set_cons_zero, List.set_cons_succ])
    refine wpAny_take (i := 7) (v := ?_) rfl (by kernel_rfl) (by kernel_rfl) (by kernel_rfl) (fun _ _ _ h => h) (Or.inl ⟨by rfl, ?_⟩) ?_
    rotate_left 1
    (intro w; go_simp; try with_reducible rfl)
    (try simp only [List.getElem_toArray, List.getElem_cons_succ, List.getElem_cons_zero, Act.put, List.setIfInBounds_toArray, List.set_cons_zero, List.set_cons_succ])
    refine wpAny_take (i := 8) (v := ?_) rfl (by kernel_rfl) (by kernel_rfl) (by kernel_rfl) (fun _ _ _ h => h) (Or.inl ⟨by rfl, ?_⟩) ?_
    rotate_left 1
    (intro w; go_simp; try with_reducible rfl)
    (try simp only [List.getElem_toArray, List.getElem_cons_succ, List.getElem_cons_zero, Act.put, List.setIfInBounds_toArray, List.set_cons_zero, List.set_cons_succ])
    refine wpAny_done (by kernel_rfl) ?_ _
    go_wp2
    go_ret
    exact ⟨ret_bool (by unfold mayA; rw [HW.out]; rfl), hb5'⟩
  · have HW := Lib.hid hw
    have h0 : 0 < s.size := by
      unfold wordB at hw
      simp only [Bool.and_eq_true, decide_eq_true_eq] at hw
      omega
    have HF := Lib.hid (fb_eq h0)
    rw [hw] at cF
    clear hw
    go_enter Tryz.func162, Tryz.ntmps162
    go_wp2_with fail
    go_region_held3 (fun W => W.cell? ⟨0, 0, none⟩ = some (.int .u8 97)) (first | exact hS0 | exact hS1 | exact hS2) (first
      | (go_at_call 163; refine (cF _ hd).mono ?_; rintro e w5 ⟨rfl, hb5⟩; have hb5' := hd.trans (hb5.mono hd.size); have hS1 := hmv _ hb5')
      | (go_at_call 164; refine (cI _ hb5' _).mono ?_; rintro e w6 ⟨rfl, hb6⟩; have hb6' := hb5'.trans (hb6.mono hb5'.size); have hS2 := hmv _ hb6'))
    go_wp2
    go_ret
    exact ⟨ret_bool (by unfold mayA; rw [HW.out, inB_small, HF.out]; rfl), hb6'⟩

set_option maxHeartbeats 2000000 in
set_option maxRecDepth 100000 in
theorem nameA_any {w : World} (hL : Letters w) (s : ByteArray) (hs : s.size ≤ 140737488355328) :
    Calls Tryz.prog 127 #[.string s] w fun e w' => e = .returned (.bool (nameA s)) ∧ Below w.heap.size w w' := by
  have cF := fun W (hb : Below w.heap.size w W) => fits_any (hL.under hb) s hs
  have cI := fun W (hb : Below w.heap.size w W) c => is_any (cap := 3) (hL.under hb).great (by decide) (Nat.lt_of_lt_of_le hL.lt hb.size) c
  have cJ := fun W (hb : Below w.heap.size w W) c => is_any (cap := 1) (hL.under hb).line (by decide) (Nat.lt_of_lt_of_le hL.lt hb.size) c
  have hd : Below w.heap.size w w.drew := below_drewN (Below.refl _ _) 1
  have hS0 := hL.c0
  have hmv := fun W (hb : Below w.heap.size w W) => (hL.under hb).c0
  clear hL
  cases hw : wordB s
  · have HW := Lib.hid hw
    rw [hw] at cF
    clear hw
    go_enter Tryz.func127, Tryz.ntmps127
    go_wp2_with fail
    refine wp_region_any (by kernel_rfl) ?_
    change wpAny _ _ _ _ _ _ _ (World.drew _)
    refine wpAny_take (i := 0) (v := ?_) rfl (by kernel_rfl) (by kernel_rfl) (by kernel_rfl) (fun _ _ _ h => h) (Or.inl ⟨by rfl, ?_⟩) ?_
    rotate_left 1
    (intro w; go_simp; try with_reducible rfl)
    (try simp only [List.getElem_toArray, List.getElem_cons_zero, Act.put, List.setIfInBounds_toArray, List.set_cons_zero, List.set_cons_succ])
    refine wpAny_ready (rs := [1]) (by kernel_rfl) (by simp) ?_
    refine AllReady.cons rfl (fun K hK => ?_) AllReady.nil
    go_simp
    go_wp2_with (go_at_call 163; refine (cF _ hd).mono ?_; rintro e w5 ⟨rfl, hb5⟩; have hb5' := hd.trans (hb5.mono hd.size))
    (try (refine hK _ _ ?_; clear hK K))
    refine wpAny_take (i := 2) (v := ?_) rfl (by kernel_rfl) (by kernel_rfl) (by kernel_rfl) (fun _ _ _ h => h) (Or.inl ⟨by rfl, ?_⟩) ?_
    rotate_left 1
    (intro w; go_simp; try with_reducible rfl)
    (try simp only [List.getElem_toArray, List.getElem_cons_succ, List.getElem_cons_zero, Act.put, List.setIfInBounds_toArray, List.set_cons_zero, List.set_cons_succ])
    refine wpAny_take (i := 3) (v := undef) rfl (by kernel_rfl) (by kernel_rfl) (by kernel_rfl) (fun _ _ _ h => h) (Or.inr ⟨by rfl, rfl⟩) ?_
    (try simp only [List.getElem_toArray, List.getElem_cons_succ, List.getElem_cons_zero, Act.put, List.setIfInBounds_toArray, List.set_cons_zero, List.set_cons_succ])
    refine wpAny_take (i := 4) (v := undef) rfl (by kernel_rfl) (by kernel_rfl) (by kernel_rfl) (fun _ _ _ h => h) (Or.inr ⟨by rfl, rfl⟩) ?_
    (try simp only [List.getElem_toArray, List.getElem_cons_succ, List.getElem_cons_zero, Act.put, List.setIfInBounds_toArray, List.set_cons_zero, List.set_cons_succ])
    refine wpAny_take (i := 5) (v := undef) rfl (by kernel_rfl) (by kernel_rfl) (by kernel_rfl) (fun _ _ _ h => h) (Or.inr ⟨by rfl, rfl⟩) ?_
    (try simp only [List.getElem_toArray, List.getElem_cons_succ, List.getElem_cons_zero, Act.put, List.setIfInBounds_toArray, List.set_cons_zero, List.set_cons_succ])
    refine wpAny_take (i := 6) (v := undef) rfl (by kernel_rfl) (by kernel_rfl) (by kernel_rfl) (fun _ _ _ h => h) (Or.inr ⟨by rfl, rfl⟩) ?_
    (try simp only [List.getElem_toArray, List.getElem_cons_succ, List.getElem_cons_zero, Act.put, List.setIfInBounds_toArray, List.set_cons_zero, List.set_cons_succ])
    refine wpAny_take (i := 7) (v := undef) rfl (by kernel_rfl) (by kernel_rfl) (by kernel_rfl) (fun _ _ _ h => h) (Or.inr ⟨by rfl, rfl⟩) ?_
    (try simp only [List.getElem_toArray, List.getElem_cons_succ, List.getElem_cons_zero, Act.put, List.setIfInBounds_toArray, List.set_cons_zero, List.set_cons_succ])
    refine wpAny_take (i := 8) (v := undef) rfl (by kernel_rfl) (by kernel_rfl) (by kernel_rfl) (fun _ _ _ h => h) (Or.inr ⟨by rfl, rfl⟩) ?_
    (try simp only [List.getElem_toArray, List.getElem_cons_succ, List.getElem_cons_zero, Act.put, List.setIfInBounds_toArray, List.set_cons_zero, List.set_cons_succ])
    refine wpAny_take (i := 9) (v := undef) rfl (by kernel_rfl) (by kernel_rfl) (by kernel_rfl) (fun _ _ _ h => h) (Or.inr ⟨by rfl, rfl⟩) ?_
    (try simp only [List.getElem_toArray, List.getElem_cons_succ, List.getElem_cons_zero, Act.put, List.setIfInBounds_toArray, List.set_cons_zero, List.set_cons_succ])
    refine wpAny_take (i := 10) (v := undef) rfl (by kernel_rfl) (by kernel_rfl) (by kernel_rfl) (fun _ _ _ h => h) (Or.inr ⟨by rfl, rfl⟩) ?_
    (try simp only [List.getElem_toArray, List.getElem_cons_succ, List.getElem_cons_zero, Act.put, List.setIfInBounds_toArray, List.set_cons_zero, List.set_cons_succ])
    refine wpAny_take (i := 11) (v := undef) rfl (by kernel_rfl) (by kernel_rfl) (by kernel_rfl) (fun _ _ _ h => h) (Or.inr ⟨by rfl, rfl⟩) ?_
    (try simp only [List.getElem_toArray, List.getElem_cons_succ, List.getElem_cons_zero, Act.put, List.setIfInBounds_toArray, List.set_cons_zero, List.set_cons_succ])
    refine wpAny_take (i := 12) (v := undef) rfl (by kernel_rfl) (by kernel_rfl) (by kernel_rfl) (fun _ _ _ h => h) (Or.inr ⟨by rfl, rfl⟩) ?_
    (try simp only [List.getElem_toArray, List.getElem_cons_succ, List.getElem_cons_zero, Act.put, List.setIfInBounds_toArray, List.set_cons_zero, List.set_cons_succ])
    refine wpAny_take (i := 13) (v := ?_) rfl (by kernel_rfl) (by kernel_rfl) (by kernel_rfl) (fun _ _ _ h => h) (Or.inl ⟨by rfl, ?_⟩) ?_
    rotate_left 1
    (intro w; go_simp; try with_reducible rfl)
    (try simp only [List.getElem_toArray, List.getElem_cons_succ, List.getElem_cons_zero, Act.put, List.setIfInBounds_toArray, List.set_cons_zero, List.set_cons_succ])
    refine wpAny_take (i := 14) (v := ?_) rfl (by kernel_rfl) (by kernel_rfl) (by kernel_rfl) (fun _ _ _ h => h) (Or.inl ⟨by rfl, ?_⟩) ?_
    rotate_left 1
    (intro w; go_simp; try with_reducible rfl)
    (try simp only [List.getElem_toArray, List.getElem_cons_succ, List.getElem_cons_zero, Act.put, List.setIfInBounds_toArray, List.set_cons_zero, List.set_cons_succ])
    refine wpAny_done (by kernel_rfl) ?_ _
    all_goals
      go_wp2
      go_ret
      exact ⟨ret_bool (by unfold nameA; rw [HW.out]; rfl), hb5'⟩
  · have HW := Lib.hid hw
    have h0 : 0 < s.size := by
      unfold wordB at hw
      simp only [Bool.and_eq_true, decide_eq_true_eq] at hw
      omega
    have hf := fb_eq h0
    rw [hw] at cF
    clear hw
    cases hg : (decide (65 ≤ fb s) && decide (fb s ≤ 90))
    · have HG := Lib.hid hg
      have cI' : ∀ W, Below w.heap.size w W → Calls Tryz.prog 164 #[.int .u8 s[0].toNat, .slice (some ⟨0, 2, none⟩) 1 3] W fun e w' => e = .returned (.bool false) ∧ Below W.heap.size W w' := fun W hb => by
        have e : inB (s[0].toNat : Int) ((LR.drop 1).take 1) = false := by rw [inB_great, hf, hg]
        have := cI W hb s[0].toNat
        rw [e] at this
        exact this
      have cJ' : ∀ W, Below w.heap.size w W → Calls Tryz.prog 164 #[.int .u8 s[0].toNat, .slice (some ⟨0, 6, none⟩) 1 1] W fun e w' => e = .returned (.bool (fb s == 95)) ∧ Below W.heap.size W w' := fun W hb => by
        have e : inB (s[0].toNat : Int) (LR.drop 3) = (fb s == 95) := by rw [inB_line, hf]
        have := cJ W hb s[0].toNat
        rw [e] at this
        exact this
      clear hg hf cI cJ
      go_enter Tryz.func127, Tryz.ntmps127
      go_wp2_with fail
      go_region_held3 (fun W => W.cell? ⟨0, 0, none⟩ = some (.int .u8 97)) (first | exact hS0 | exact hS1 | exact hS2 | exact hS3) (first
        | (go_at_call 163; refine (cF _ hd).mono ?_; rintro e w5 ⟨rfl, hb5⟩; have hb5' := hd.trans (hb5.mono hd.size); have hS1 := hmv _ hb5')
        | (go_at_call 164; have _t := hb6'; ((with_reducible refine (cJ' _ hb6').mono ?_); rintro e w7 ⟨rfl, hb7⟩; have hS3 := hmv _ (hb6'.trans (hb7.mono hb6'.size))))
        | (go_at_call 164; ((with_reducible refine (cI' _ hb5').mono ?_); rintro e w6 ⟨rfl, hb6⟩; have hb6' := hb5'.trans (hb6.mono hb5'.size); have hS2 := hmv _ hb6')))
      all_goals
        go_wp2
        go_ret
        exact ⟨ret_bool (by unfold nameA; rw [HW.out, HG.out]; rfl), hb6'.trans (hb7.mono hb6'.size)⟩
    · have HG := Lib.hid hg
      have cI' : ∀ W, Below w.heap.size w W → Calls Tryz.prog 164 #[.int .u8 s[0].toNat, .slice (some ⟨0, 2, none⟩) 1 3] W fun e w' => e = .returned (.bool true) ∧ Below W.heap.size W w' := fun W hb => by
        have e : inB (s[0].toNat : Int) ((LR.drop 1).take 1) = true := by rw [inB_great, hf, hg]
        have := cI W hb s[0].toNat
        rw [e] at this
        exact this
      clear hg hf cI cJ
      go_enter Tryz.func127, Tryz.ntmps127
      go_wp2_with fail
      refine wp_region_any (by kernel_rfl) ?_
      change wpAny _ _ _ _ _ _ _ (World.drew _)
      refine wpAny_take (i := 0) (v := ?_) rfl (by kernel_rfl) (by kernel_rfl) (by kernel_rfl) (fun _ _ _ h => h) (Or.inl ⟨by rfl, ?_⟩) ?_
      rotate_left 1
      (intro w; go_simp; try with_reducible rfl)
      (try simp only [List.getElem_toArray, List.getElem_cons_zero, Act.put, List.setIfInBounds_toArray, List.set_cons_zero, List.set_cons_succ])
      refine wpAny_ready (rs := [1]) (by kernel_rfl) (by simp) ?_
      refine AllReady.cons rfl (fun K hK => ?_) AllReady.nil
      go_simp
      go_wp2_with (first | (go_at_call 163; refine (cF _ hd).mono ?_; rintro e w5 ⟨rfl, hb5⟩; have hb5' := hd.trans (hb5.mono hd.size)) | (go_at_call 164; ((with_reducible refine (cI' _ hb5').mono ?_); rintro e w6 ⟨rfl, hb6⟩; have hb6' := hb5'.trans (hb6.mono hb5'.size))))
      (try (refine hK _ _ ?_; clear hK K))
      refine wpAny_take (i := 2) (v := ?_) rfl (by kernel_rfl) (by kernel_rfl) (by kernel_rfl) (fun _ _ _ h => h) (Or.inl ⟨by rfl, ?_⟩) ?_
      rotate_left 1
      (intro w; go_simp; try with_reducible rfl)
      (try simp only [List.getElem_toArray, List.getElem_cons_succ, List.getElem_cons_zero, Act.put, List.setIfInBounds_toArray, List.set_cons_zero, List.set_cons_succ])
      refine wpAny_take (i := 3) (v := ?_) rfl (by kernel_rfl) (by kernel_rfl) (by kernel_rfl) (fun _ _ _ h => h) (Or.inl ⟨by rfl, ?_⟩) ?_
      rotate_left 1
      (intro w; go_simp; try with_reducible rfl)
      (try simp only [List.getElem_toArray, List.getElem_cons_succ, List.getElem_cons_zero, Act.put, List.setIfInBounds_toArray, List.set_cons_zero, List.set_cons_succ])
      refine wpAny_take (i := 4) (v := ?_) rfl (by kernel_rfl) (by kernel_rfl) (by kernel_rfl) (fun _ _ _ h => h) (Or.inl ⟨by rfl, ?_⟩) ?_
      rotate_left 1
      (intro w; go_simp; try with_reducible rfl)
      (try simp only [List.getElem_toArray, List.getElem_cons_succ, List.getElem_cons_zero, Act.put, List.setIfInBounds_toArray, List.set_cons_zero, List.set_cons_succ])
      refine wpAny_take (i := 5) (v := ?_) rfl (by kernel_rfl) (by kernel_rfl) (by kernel_rfl) (fun _ _ _ h => h) (Or.inl ⟨by rfl, ?_⟩) ?_
      rotate_left 1
      (intro w; go_simp; try with_reducible rfl)
      (try simp only [List.getElem_toArray, List.getElem_cons_succ, List.getElem_cons_zero, Act.put, List.setIfInBounds_toArray, List.set_cons_zero, List.set_cons_succ])
      refine wpAny_ready (rs := [6]) (by kernel_rfl) (by simp) ?_
      refine AllReady.cons rfl (fun K hK => ?_) AllReady.nil
      go_simp
      go_wp2_with (first | (go_at_call 163; refine (cF _ hd).mono ?_; rintro e w5 ⟨rfl, hb5⟩; have hb5' := hd.trans (hb5.mono hd.size)) | (go_at_call 164; ((with_reducible refine (cI' _ hb5').mono ?_); rintro e w6 ⟨rfl, hb6⟩; have hb6' := hb5'.trans (hb6.mono hb5'.size))))
      (try (refine hK _ _ ?_; clear hK K))
      refine wpAny_take (i := 7) (v := ?_) rfl (by kernel_rfl) (by kernel_rfl) (by kernel_rfl) (fun _ _ _ h => h) (Or.inl ⟨by rfl, ?_⟩) ?_
      rotate_left 1
      (intro w; go_simp; try with_reducible rfl)
      (try simp only [List.getElem_toArray, List.getElem_cons_succ, List.getElem_cons_zero, Act.put, List.setIfInBounds_toArray, List.set_cons_zero, List.set_cons_succ])
      refine wpAny_take (i := 8) (v := undef) rfl (by kernel_rfl) (by kernel_rfl) (by kernel_rfl) (fun _ _ _ h => h) (Or.inr ⟨by rfl, rfl⟩) ?_
      (try simp only [List.getElem_toArray, List.getElem_cons_succ, List.getElem_cons_zero, Act.put, List.setIfInBounds_toArray, List.set_cons_zero, List.set_cons_succ])
      refine wpAny_take (i := 9) (v := undef) rfl (by kernel_rfl) (by kernel_rfl) (by kernel_rfl) (fun _ _ _ h => h) (Or.inr ⟨by rfl, rfl⟩) ?_
      (try simp only [List.getElem_toArray, List.getElem_cons_succ, List.getElem_cons_zero, Act.put, List.setIfInBounds_toArray, List.set_cons_zero, List.set_cons_succ])
      refine wpAny_take (i := 10) (v := undef) rfl (by kernel_rfl) (by kernel_rfl) (by kernel_rfl) (fun _ _ _ h => h) (Or.inr ⟨by rfl, rfl⟩) ?_
      (try simp only [List.getElem_toArray, List.getElem_cons_succ, List.getElem_cons_zero, Act.put, List.setIfInBounds_toArray, List.set_cons_zero, List.set_cons_succ])
      refine wpAny_take (i := 11) (v := undef) rfl (by kernel_rfl) (by kernel_rfl) (by kernel_rfl) (fun _ _ _ h => h) (Or.inr ⟨by rfl, rfl⟩) ?_
      (try simp only [List.getElem_toArray, List.getElem_cons_succ, List.getElem_cons_zero, Act.put, List.setIfInBounds_toArray, List.set_cons_zero, List.set_cons_succ])
      refine wpAny_take (i := 12) (v := ?_) rfl (by kernel_rfl) (by kernel_rfl) (by kernel_rfl) (fun _ _ _ h => h) (Or.inl ⟨by rfl, ?_⟩) ?_
      rotate_left 1
      (intro w; go_simp; try with_reducible rfl)
      (try simp only [List.getElem_toArray, List.getElem_cons_succ, List.getElem_cons_zero, Act.put, List.setIfInBounds_toArray, List.set_cons_zero, List.set_cons_succ])
      refine wpAny_take (i := 13) (v := ?_) rfl (by kernel_rfl) (by kernel_rfl) (by kernel_rfl) (fun _ _ _ h => h) (Or.inl ⟨by rfl, ?_⟩) ?_
      rotate_left 1
      (intro w; go_simp; try with_reducible rfl)
      (try simp only [List.getElem_toArray, List.getElem_cons_succ, List.getElem_cons_zero, Act.put, List.setIfInBounds_toArray, List.set_cons_zero, List.set_cons_succ])
      refine wpAny_take (i := 14) (v := ?_) rfl (by kernel_rfl) (by kernel_rfl) (by kernel_rfl) (fun _ _ _ h => h) (Or.inl ⟨by rfl, ?_⟩) ?_
      rotate_left 1
      (intro w; go_simp; try with_reducible rfl)
      (try simp only [List.getElem_toArray, List.getElem_cons_succ, List.getElem_cons_zero, Act.put, List.setIfInBounds_toArray, List.set_cons_zero, List.set_cons_succ])
      refine wpAny_done (by kernel_rfl) ?_ _
      all_goals
        go_wp2
        go_ret
        exact ⟨ret_bool (by unfold nameA; rw [HW.out, HG.out]; rfl), hb6'⟩
end Go.Proofs.YtlhobpknflobgaaGreatDoor
namespace Go.Proofs.YtlhobpknflobgaaGreatDoor
open Go.RowKit

set_option maxHeartbeats 1000000 in
theorem letter_any (w : World) (c : Int) :
    Calls Tryz.prog 205 #[.int .u8 c] w fun e w' => e = .returned (.bool (letB c)) ∧ w = w' := by
  by_cases h1 : 97 ≤ c
  · by_cases h2 : c ≤ 122
    · go_enter Tryz.func205, Tryz.ntmps205
      go_wp2
      go_ret
      exact ⟨ret_bool (by rw [Bool.eq_iff_iff, letB_iff]; simp; omega), rfl⟩
    · go_enter Tryz.func205, Tryz.ntmps205
      go_wp2
      go_ret
      exact ⟨ret_bool (by rw [Bool.eq_iff_iff, letB_iff]; simp; omega), rfl⟩
  · by_cases h3 : 65 ≤ c
    · by_cases h4 : c ≤ 90
      · go_enter Tryz.func205, Tryz.ntmps205
        go_wp2
        go_ret
        exact ⟨ret_bool (by rw [Bool.eq_iff_iff, letB_iff]; simp; omega), rfl⟩
      · go_enter Tryz.func205, Tryz.ntmps205
        go_wp2
        go_ret
        exact ⟨ret_bool (by rw [Bool.eq_iff_iff, letB_iff]; simp; omega), rfl⟩
    · by_cases h4 : 48 ≤ c
      · by_cases h5 : c ≤ 57
        · go_enter Tryz.func205, Tryz.ntmps205
          go_wp2
          go_ret
          exact ⟨ret_bool (by rw [Bool.eq_iff_iff, letB_iff]; simp; omega), rfl⟩
        · go_enter Tryz.func205, Tryz.ntmps205
          go_wp2
          go_ret
          exact ⟨ret_bool (by rw [Bool.eq_iff_iff, letB_iff]; simp; omega), rfl⟩
      · go_enter Tryz.func205, Tryz.ntmps205
        go_wp2
        go_ret
        exact ⟨ret_bool (by rw [Bool.eq_iff_iff, letB_iff]; simp; omega), rfl⟩

set_option maxHeartbeats 1000000 in
theorem rprefix_any (w : World) (s : ByteArray) (hs : s.size ≤ 140737488355328) :
    Calls Tryz.prog 170 #[.string s] w fun e w' => e = .returned (.int .i64 (pfx s)) ∧ w = w' := by
  go_enter Tryz.func170, Tryz.ntmps170
  go_wp2
  go_loopw [3] (fun i wr => ∃ k : Nat, k ≤ s.size ∧ i = .int .i64 k ∧ (s.data.toList.take k).all (fun c => letB c.toNat) = true ∧ w = wr) (fun i _ => s.size - (intOf i).toNat)
  case atStart => exact ⟨0, Nat.zero_le _, rfl, rfl, rfl⟩
  case round =>
    obtain ⟨k, hk, rfl, hall, rfl⟩ := hrel
    have HALL := Lib.hid hall
    clear hall
    by_cases hlt : k < s.size
    · cases hl : letB s[k].toNat
      all_goals
        have HLB := Lib.hid hl
        clear hl
        go_wp2_with (go_at_call 205; refine (letter_any _ _).mono ?_; rintro e w5 ⟨rfl, rfl⟩; rw [HLB.out])
      · go_ret
        exact ⟨ret_i64 (by rw [pfx_of hk HALL.out fun h => HLB.out]), rfl⟩
      · go_roundw
        case rel => exact ⟨k + 1, hlt, by go_num, all_succ hlt HALL.out HLB.out, by first | rfl | trivial⟩
        case measure => simp [intOf]; omega
    · go_wp2
      go_ret
      exact ⟨ret_i64 (by rw [pfx_of hk HALL.out fun h => absurd h hlt]), rfl⟩

theorem wordB_iff (s : ByteArray) : wordB s = true ↔ 1 ≤ s.size ∧ s.size ≤ 32 ∧ pfx s = s.size := by
  unfold wordB
  simp [and_assoc]

set_option maxHeartbeats 1000000 in
set_option maxRecDepth 100000 in
theorem rmay_any (w : World) (s : ByteArray) (hs : s.size ≤ 140737488355328) :
    Calls Tryz.prog 135 #[.string s] w fun e w' => e = .returned (.bool (mayA s)) ∧ w = w' := by
  have cP := rprefix_any w s hs
  by_cases h1 : 1 ≤ s.size
  · have h0 : 0 < s.size := h1
    have hf := fb_eq h0
    by_cases h2 : s.size ≤ 32
    · by_cases h3 : 97 ≤ fb s
      · by_cases h4 : fb s ≤ 122
        · have g3 : 97 ≤ (s[0].toNat : Int) := by omega
          have g4 : (s[0].toNat : Int) ≤ 122 := by omega
          have HF := Lib.hid hf
          clear hf h3 h4
          go_enter Tryz.func135, Tryz.ntmps135
          go_wp2_with (go_at_call 170; refine cP.mono ?_; rintro e w5 ⟨rfl, rfl⟩)
          go_ret
          have := HF.out
          exact ⟨ret_bool (by rw [Bool.eq_iff_iff]; unfold mayA; rw [Bool.and_eq_true, wordB_iff]; simp; omega), rfl⟩
        · have g3 : 97 ≤ (s[0].toNat : Int) := by omega
          have g4 : ¬ (s[0].toNat : Int) ≤ 122 := by omega
          have H4 := Lib.hid h4
          clear hf h3 h4
          go_enter Tryz.func135, Tryz.ntmps135
          go_wp2
          go_ret
          exact ⟨ret_bool (by have := H4.out; unfold mayA; rw [Bool.eq_iff_iff]; simp; omega), rfl⟩
      · have g3 : ¬ 97 ≤ (s[0].toNat : Int) := by omega
        have H4 := Lib.hid h3
        clear hf h3
        go_enter Tryz.func135, Tryz.ntmps135
        go_wp2
        go_ret
        exact ⟨ret_bool (by have := H4.out; unfold mayA; rw [Bool.eq_iff_iff]; simp; omega), rfl⟩
    · clear hf
      go_enter Tryz.func135, Tryz.ntmps135
      go_wp2
      go_ret
      exact ⟨ret_bool (by unfold mayA wordB; rw [decide_eq_false h2]; simp), rfl⟩
  · go_enter Tryz.func135, Tryz.ntmps135
    go_wp2
    go_ret
    exact ⟨ret_bool (by unfold mayA wordB; rw [decide_eq_false h1]; simp), rfl⟩

theorem nameA_iff (s : ByteArray) : nameA s = true ↔ (1 ≤ s.size ∧ s.size ≤ 32 ∧ pfx s = s.size) ∧ ((65 ≤ fb s ∧ fb s ≤ 90) ∨ fb s = 95) := by
  unfold nameA
  rw [Bool.and_eq_true, wordB_iff]
  simp

set_option maxHeartbeats 2000000 in
set_option maxRecDepth 100000 in
theorem rname_any (w : World) (s : ByteArray) (hs : s.size ≤ 140737488355328) :
    Calls Tryz.prog 129 #[.string s] w fun e w' => e = .returned (.bool (nameA s)) ∧ w = w' := by
  have cP := rprefix_any w s hs
  by_cases h1 : 1 ≤ s.size
  · have h0 : 0 < s.size := h1
    have hf := fb_eq h0
    have hni := nameA_iff s
    have HNI := Lib.hid hni
    clear hni
    generalize hc : (s[0].toNat : Int) = c at hf
    have HC := Lib.hid hc
    have HF := Lib.hid hf
    clear hf
    by_cases h2 : s.size ≤ 32
    · by_cases h3 : 65 ≤ c
      · by_cases h4 : c ≤ 90
        · have g3 : 65 ≤ (s[0].toNat : Int) := by omega
          have g4 : (s[0].toNat : Int) ≤ 90 := by omega
          clear hc
          go_enter Tryz.func129, Tryz.ntmps129
          go_wp2_with (go_at_call 170; refine cP.mono ?_; rintro e w5 ⟨rfl, rfl⟩)
          go_ret
          have := HF.out
          exact ⟨ret_bool (by rw [Bool.eq_iff_iff, HNI.out]; simp; omega), rfl⟩
        · by_cases h5 : c = 95
          · have g3 : 65 ≤ (s[0].toNat : Int) := by omega
            have g4 : ¬ (s[0].toNat : Int) ≤ 90 := by omega
            have g5 : ((s[0].toNat : Int) == 95) = true := by rw [beq_iff_eq]; omega
            have H5 := Lib.hid h5
            clear hc h5
            go_enter Tryz.func129, Tryz.ntmps129
            go_wp2_with (go_at_call 170; refine cP.mono ?_; rintro e w5 ⟨rfl, rfl⟩)
            go_ret
            have := HF.out
            have := H5.out
            exact ⟨ret_bool (by rw [Bool.eq_iff_iff, HNI.out]; simp; omega), rfl⟩
          · have g3 : 65 ≤ (s[0].toNat : Int) := by omega
            have g4 : ¬ (s[0].toNat : Int) ≤ 90 := by omega
            have g5 : ((s[0].toNat : Int) == 95) = false := by rw [beq_eq_false_iff_ne]; omega
            clear hc
            go_enter Tryz.func129, Tryz.ntmps129
            go_wp2
            go_ret
            have := HF.out
            exact ⟨ret_bool (by rw [Bool.eq_iff_iff, HNI.out]; simp; omega), rfl⟩
      · have g3 : ¬ 65 ≤ (s[0].toNat : Int) := by omega
        have g5 : ((s[0].toNat : Int) == 95) = false := by rw [beq_eq_false_iff_ne]; omega
        clear hc
        go_enter Tryz.func129, Tryz.ntmps129
        go_wp2
        go_ret
        have := HF.out
        exact ⟨ret_bool (by rw [Bool.eq_iff_iff, HNI.out]; simp; omega), rfl⟩
    · clear hc
      go_enter Tryz.func129, Tryz.ntmps129
      go_wp2
      go_ret
      exact ⟨ret_bool (by rw [Bool.eq_iff_iff, HNI.out]; simp; omega), rfl⟩
  · go_enter Tryz.func129, Tryz.ntmps129
    go_wp2
    go_ret
    exact ⟨ret_bool (by rw [Bool.eq_iff_iff, nameA_iff]; simp; omega), rfl⟩

/-- May a number be an integer? -/
def mayI (n : Int) : Bool := decide (-576460752303423488 ≤ n) && decide (n ≤ 576460752303423487)
set_option maxHeartbeats 400000 in
theorem intsMay_any (w : World) (n : Int) : Calls Tryz.prog 154 #[.int .i64 n] w fun e w' => e = .returned (.bool (mayI n)) ∧ w = w' := by
  by_cases h1 : -576460752303423488 ≤ n
  · go_enter Tryz.func154, Tryz.ntmps154
    go_wp2
    go_ret
    exact ⟨ret_bool (by unfold mayI; rw [decide_eq_true h1]; simp), rfl⟩
  · go_enter Tryz.func154, Tryz.ntmps154
    go_wp2
    go_ret
    exact ⟨ret_bool (by unfold mayI; rw [Bool.eq_iff_iff]; simp; omega), rfl⟩
set_option maxHeartbeats 400000 in
theorem rintsMay_any (w : World) (n : Int) : Calls Tryz.prog 134 #[.int .i64 n] w fun e w' => e = .returned (.bool (mayI n)) ∧ w = w' := by
  by_cases h1 : -576460752303423488 ≤ n
  · go_enter Tryz.func134, Tryz.ntmps134
    go_wp2
    go_ret
    exact ⟨ret_bool (by unfold mayI; rw [decide_eq_true h1]; simp), rfl⟩
  · go_enter Tryz.func134, Tryz.ntmps134
    go_wp2
    go_ret
    exact ⟨ret_bool (by unfold mayI; rw [Bool.eq_iff_iff]; simp; omega), rfl⟩
end Go.Proofs.YtlhobpknflobgaaGreatDoor
