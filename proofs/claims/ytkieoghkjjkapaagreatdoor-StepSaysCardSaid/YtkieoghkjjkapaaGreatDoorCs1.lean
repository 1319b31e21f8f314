/-
  code.Name, code.Slot: a slot's name and back. Conditions: the two errors of strconv lie in their variables.
-/
import Derived.Test.YtkieoghkjjkapaaGreatDoorRows
import Derived.Test.YtkieoghkjjkapaaGreatDoorShelfA
import Derived.WalkKit
import Derived.WalkSpells
import Derived.WalkLawsBesides
import Derived.WalkSmall
import Derived.Deep.QuietTactic
import Derived.BigQuiet
import Derived.Lib.Hide
import Derived.WideShapes
namespace Go.Proofs.YtkieoghkjjkapaaGreatDoor
open Go.RowKit

def nmS (n : Int) : ByteArray := if 0 ≤ n ∧ n < 32 then ⟨(86 :: Lib.decDigits n.toNat).toArray⟩ else ⟨#[]⟩
structure Errs (w : World) : Prop where
  a : ∃ te pe, w.cell? ⟨4, 0, none⟩ = some (.iface te pe)
  b : ∃ te pe, w.cell? ⟨5, 0, none⟩ = some (.iface te pe)
theorem cell_blk {w : World} {g o : Nat} {v : Value} (h : w.cell? ⟨g, o, none⟩ = some v) : g < w.heap.size := by
  unfold World.cell? at h
  cases hg : w.heap[g]? with
  | none => simp [hg] at h
  | some ob => exact (Array.getElem?_eq_some_iff.1 hg).1
theorem Errs.below {w w' : World} (h : Errs w) (hb : Below w.heap.size w w') : Errs w' := by
  obtain ⟨⟨t, p, e⟩, ⟨t2, p2, e2⟩⟩ := h
  exact ⟨⟨t, p, (hb.cell (p := ⟨4, 0, none⟩) (cell_blk e)).trans e⟩, ⟨t2, p2, (hb.cell (p := ⟨5, 0, none⟩) (cell_blk e2)).trans e2⟩⟩
theorem itoa_any (i : Nat) (hi : i < 100) (w : World) : Calls Tryz.prog 35 #[.int .i64 i] w fun e w' => e = .returned (.string ⟨(Lib.decDigits i).toArray⟩) ∧ w' = w := Any.strconv_Itoa_small Tryz.lays171 i hi w
def trimV (s : ByteArray) : ByteArray := ⟨(Lib.trimPrefix s.data.toList [86]).toArray⟩
theorem trim_any (s : ByteArray) (w : World) : Calls Tryz.prog 286 #[.string s, .string ⟨#[86]⟩] w fun e w' => e = .returned (.string (trimV s)) ∧ w' = w := Any.strings_TrimPrefix Tryz.lays101 s ⟨#[86]⟩ w
theorem atoi_ok (s : ByteArray) (hs : s.size ≤ 281474976710656) (v : Int) (h : Lib.atoiAll s.data.toList = .ok v) (w : World) :
    Calls Tryz.prog 285 #[.string s] w fun e w' => e = .returned (.tuple #[.int .i64 v, .nilIface]) ∧ Below w.heap.size w w' := by
  refine (show Calls Tryz.prog 285 _ _ _ from Any.strconv_Atoi_ok Tryz.laysC172 s (by omega) v h w).mono ?_
  rintro e w' ⟨rfl, rfl | ⟨t, rfl⟩⟩
  · exact ⟨rfl, Below.refl _ _⟩
  · exact ⟨rfl, Lib.bytesWorld_below _ _ _⟩
theorem atoi_no (s : ByteArray) (hs : s.size ≤ 281474976710656) {w : World} (hE : Errs w) (h : ∀ v, Lib.atoiAll s.data.toList ≠ .ok v) :
    Calls Tryz.prog 285 #[.string s] w fun e w' => ∃ v t p, e = .returned (.tuple #[.int .i64 v, .iface t p]) ∧ Below w.heap.size w w' := by
  obtain ⟨⟨t, p, e⟩, ⟨t2, p2, e2⟩⟩ := hE
  cases hr : Lib.atoiAll s.data.toList with
  | ok v => exact absurd hr (h v)
  | «syntax» =>
    refine (show Calls Tryz.prog 285 _ _ _ from Any.strconv_Atoi_syntax Tryz.laysC172 s hs hr _ w e (.inr ⟨t, p, rfl⟩)).mono ?_
    rintro e w' ⟨N, rfl, _, _, hb⟩
    exact ⟨_, _, _, rfl, hb⟩
  | range =>
    refine (show Calls Tryz.prog 285 _ _ _ from Any.strconv_Atoi_range Tryz.laysC172 s hs hr _ w e2 (.inr ⟨t2, p2, rfl⟩)).mono ?_
    rintro e w' ⟨N, rfl, _, _, hb⟩
    exact ⟨_, _, _, rfl, hb⟩
theorem dec_one {k : Nat} (h : k < 10) : Lib.decDigits k = [UInt8.ofNat (48 + k)] := by rw [Lib.decDigits, dif_pos h]
theorem dec_two {k : Nat} (h : 10 ≤ k) (h' : k < 100) : Lib.decDigits k = [UInt8.ofNat (48 + k / 10), UInt8.ofNat (48 + k % 10)] := by
  rw [Lib.decDigits, dif_neg (by omega), dec_one (by omega)]
  rfl
theorem dec_len {k : Nat} (h : k < 100) : (Lib.decDigits k).length ≤ 2 := by
  by_cases h1 : k < 10
  · rw [dec_one h1]; simp
  · rw [dec_two (by omega) h]; simp
set_option maxHeartbeats 1000000 in
theorem name_any (n : Int) (w : World) : Calls Tryz.prog 20 #[.int .i64 n] w fun e w' => e = .returned (.string (nmS n)) ∧ w' = w := by
  by_cases h0 : n < 0
  · have e : nmS n = ⟨#[]⟩ := by unfold nmS; rw [if_neg (by omega)]
    rw [e]
    clear e
    go_enter Tryz.func20, Tryz.ntmps20
    go_wp2
    go_ret
    exact ⟨rfl, rfl⟩
  · by_cases h1 : n < 32
    · obtain ⟨k, rfl⟩ : ∃ k : Nat, n = k := ⟨n.toNat, by omega⟩
      have e : nmS k = ⟨#[86]⟩ ++ ⟨(Lib.decDigits k).toArray⟩ := by
        unfold nmS
        rw [if_pos (by omega)]
        apply ByteArray.ext
        simp
      rw [e]
      have cI := fun W => itoa_any k (by omega) W
      have hl := dec_len (k := k) (by omega)
      clear e
      go_enter Tryz.func20, Tryz.ntmps20
      go_wp2_with (go_at_call 35; refine (cI _).mono ?_; rintro e w' ⟨rfl, rfl⟩)
      all_goals first
        | (go_ret; exact ⟨rfl, rfl⟩)
        | (exfalso; simp at *; omega)
    · have e : nmS n = ⟨#[]⟩ := by unfold nmS; rw [if_neg (by omega)]
      rw [e]
      clear e
      go_enter Tryz.func20, Tryz.ntmps20
      go_wp2
      go_ret
      exact ⟨rfl, rfl⟩
/-- What a name's slot is, and whether it is one. -/
def slotR (s : ByteArray) : Lib.NumEnd Int → Int × Bool
  | .ok v => if nmS v = s ∧ s ≠ ⟨#[]⟩ then (v, true) else (0, false)
  | _ => (0, false)
def slotS (s : ByteArray) : Int × Bool := slotR s (Lib.atoiAll (trimV s).data.toList)
theorem trim_len (s : ByteArray) : (trimV s).size ≤ s.size := by
  unfold trimV Lib.trimPrefix
  rw [Lib.size_eq, Lib.size_eq]
  split <;> simp
theorem tl_inj {a b : ByteArray} : a.toList = b.toList ↔ a = b := by
  constructor
  · intro h
    rw [ByteArray.toList_eq, ByteArray.toList_eq] at h
    exact Go.WideShapes.bytes_inj h
  · rintro rfl; rfl
theorem tl_nil {a : ByteArray} : a.toList = [] ↔ a = ⟨#[]⟩ := by
  constructor
  · intro h
    rw [ByteArray.toList_eq] at h
    exact Go.WideShapes.bytes_inj h
  · rintro rfl
    rw [ByteArray.toList_eq]
theorem emp_true {a : ByteArray} : a.toList.isEmpty = true ↔ a = ⟨#[]⟩ := by rw [List.isEmpty_iff, tl_nil]
theorem emp_false {a : ByteArray} : a.toList.isEmpty = false ↔ a ≠ ⟨#[]⟩ := by
  rw [ne_eq, ← emp_true, Bool.not_eq_true]
theorem ret_slot {s : ByteArray} {a : Int} {b : Bool} (h : slotS s = (a, b)) : (Ending.returned (.tuple #[.int .i64 a, .bool b])) = .returned (.tuple #[.int .i64 (slotS s).1, .bool (slotS s).2]) := by rw [h]
theorem slot_name {s : ByteArray} (h : (slotS s).2 = true) : nmS (slotS s).1 = s := by
  unfold slotS at h ⊢
  cases hr : Lib.atoiAll (trimV s).data.toList with
  | ok v =>
    rw [hr] at h
    unfold slotR at h ⊢
    simp only at h ⊢
    split
    · rename_i hc; exact hc.1
    · rename_i hc; rw [if_neg hc] at h; cases h
  | «syntax» => rw [hr] at h; cases h
  | range => rw [hr] at h; cases h
theorem atoi_dec : ∀ k : Nat, k < 32 → Lib.atoiAll (Lib.decDigits k) = .ok k := by
  intro k hk
  by_cases h1 : k < 10
  · rw [dec_one h1]
    have : ∀ i : Fin 10, Lib.atoiAll [UInt8.ofNat (48 + i.1)] = .ok (i.1 : Int) := by decide
    exact this ⟨k, h1⟩
  · rw [dec_two (by omega) (by omega)]
    have : ∀ i : Fin 32, 10 ≤ i.1 → Lib.atoiAll [UInt8.ofNat (48 + i.1 / 10), UInt8.ofNat (48 + i.1 % 10)] = .ok (i.1 : Int) := by decide
    exact this ⟨k, hk⟩ (by show 10 ≤ k; omega)
theorem nm_in {k : Nat} (hk : k < 32) : nmS k = ⟨(86 :: Lib.decDigits k).toArray⟩ := by
  unfold nmS
  rw [if_pos (by omega)]
  simp
theorem nm_out {n : Int} (h : ¬ (0 ≤ n ∧ n < 32)) : nmS n = ⟨#[]⟩ := by unfold nmS; rw [if_neg h]
theorem slot_back {k : Nat} (hk : k < 32) : slotS (nmS k) = ((k : Int), true) := by
  have e : (trimV (nmS k)).data.toList = Lib.decDigits k := by
    rw [nm_in hk]
    unfold trimV Lib.trimPrefix
    rw [if_pos (by simp [Lib.hasPrefix])]
    simp
  unfold slotS
  rw [e, atoi_dec k hk]
  have hne : nmS k ≠ ⟨#[]⟩ := by
    rw [nm_in hk]
    intro h
    have := congrArg (fun b : ByteArray => b.data.toList) h
    simp at this
  unfold slotR
  exact if_pos ⟨rfl, hne⟩
theorem slot_none : slotS ⟨#[]⟩ = (0, false) := by
  unfold slotS
  have e : (trimV ⟨#[]⟩).data.toList = [] := by
    unfold trimV Lib.trimPrefix
    split <;> simp
  rw [e]
  rfl
set_option maxHeartbeats 2000000 in
theorem slot_any {s : ByteArray} (hs : s.size ≤ 281474976710656) {w : World} (hE : Errs w) : Calls Tryz.prog 240 #[.string s] w fun e w' => e = .returned (.tuple #[.int .i64 (slotS s).1, .bool (slotS s).2]) ∧ Below w.heap.size w w' := by
  have hl := Nat.le_trans (trim_len s) hs
  have cT := fun W => trim_any s W
  have cN := fun v W => name_any v W
  have hS : slotS s = slotR s (Lib.atoiAll (trimV s).data.toList) := rfl
  by_cases hv : ∃ v, Lib.atoiAll (trimV s).data.toList = .ok v
  · obtain ⟨v, hv⟩ := hv
    rw [hv] at hS
    simp only [slotR] at hS
    have cA := fun W => atoi_ok (trimV s) hl v hv W
    have HS := Lib.hid hS
    clear hS hE hv
    go_enter Tryz.func240, Tryz.ntmps240
    go_wp2_with (first
      | (go_at_call 286; refine (cT _).mono ?_; rintro e w1 ⟨rfl, rfl⟩)
      | (go_at_call 285; refine (cA _).mono ?_; rintro e w2 ⟨rfl, hb2⟩)
      | (go_at_call 20; refine (cN _ _).mono ?_; rintro e w3 ⟨rfl, rfl⟩))
    all_goals
      go_ret2
      refine ⟨ret_slot ?_, hb2⟩
      rw [HS.out]
      simp only [emp_true, emp_false, tl_inj] at *
      simp [*]
  · have hS : slotS s = (0, false) := by
      rw [hS]
      cases hr : Lib.atoiAll (trimV s).data.toList with
      | ok v => exact absurd ⟨v, hr⟩ hv
      | «syntax» => rfl
      | range => rfl
    have cA := fun W (hb : Below w.heap.size w W) => atoi_no (trimV s) hl (hE.below hb) fun v h => hv ⟨v, h⟩
    have HS := Lib.hid hS
    clear hS hE hv
    go_enter Tryz.func240, Tryz.ntmps240
    go_wp2_with (first
      | (go_at_call 286; refine (cT _).mono ?_; rintro e w1 ⟨rfl, rfl⟩)
      | (go_at_call 285; refine (cA _ (Below.refl _ _)).mono ?_; rintro e w2 ⟨v, t, p, rfl, hb2⟩)
      | (go_at_call 20; refine (cN _ _).mono ?_; rintro e w3 ⟨rfl, rfl⟩))
    all_goals
      go_ret2
      exact ⟨ret_slot HS.out, hb2⟩
end Go.Proofs.YtkieoghkjjkapaaGreatDoor
