/-
  math/bits.Mul64, ints.times; ints.over, ways; ints.Do at +, -, *. Conditions: as said.
-/
import Derived.Test.YtlhobpknflobgaaGreatDoorGd2
import Derived.Test.YtlhobpknflobgaaGreatDoorSm1
import Derived.Shelf.Bits.Mul64
namespace Go.Proofs.YtlhobpknflobgaaGreatDoor
open Go.RowKit Go.Lib

set_option maxHeartbeats 1000000 in
theorem mul64_any (x y : Nat) (hx : x < 18446744073709551616) (hy : y < 18446744073709551616) (w : World) :
    Calls Tryz.prog 212 #[.int .u64 x, .int .u64 y] w fun e w' => e = .returned (.tuple #[.int .u64 ((x * y / 18446744073709551616 : Nat) : Int), .int .u64 ((x * y % 18446744073709551616 : Nat) : Int)]) ∧ w = w' := by
  obtain ⟨bd, bt, bw, hhi⟩ := Lib.mul64_hi x y hx hy
  have ba := Lib.half_mul_le (a := x / 4294967296) (b := y / 4294967296) (by omega) (by omega)
  have bb := Lib.half_mul_le (a := x / 4294967296) (b := y % 4294967296) (by omega) (by omega)
  have bc := Lib.half_mul_le (a := x % 4294967296) (b := y / 4294967296) (by omega) (by omega)
  have ba' : x / 4294967296 * (y / 4294967296) < 18446744073709551616 := by omega
  have bb' : x / 4294967296 * (y % 4294967296) < 18446744073709551616 := by omega
  have bc' : x % 4294967296 * (y / 4294967296) < 18446744073709551616 := by omega
  have bh1 : x / 4294967296 * (y / 4294967296) + (x / 4294967296 * (y % 4294967296) + x % 4294967296 * (y % 4294967296) / 4294967296) / 4294967296 < 18446744073709551616 := by omega
  have bh : x / 4294967296 * (y / 4294967296) + (x / 4294967296 * (y % 4294967296) + x % 4294967296 * (y % 4294967296) / 4294967296) / 4294967296 + ((x / 4294967296 * (y % 4294967296) + x % 4294967296 * (y % 4294967296) / 4294967296) % 4294967296 + x % 4294967296 * (y / 4294967296)) / 4294967296 < 18446744073709551616 := by omega
  go_enter Tryz.func212, Tryz.ntmps212
  go_wp2
  simp only [Mul64.maskN x hx, Mul64.maskN y hy, Mul64.divN, Mul64.mulN, Mul64.addN, Mul64.wrapN _ bd, Mul64.wrapN _ bb', Mul64.wrapN _ bt, Mul64.maskN _ bt, Mul64.wrapN _ bc', Mul64.wrapN _ bw, Mul64.wrapN _ ba', Mul64.wrapN _ bh1, Mul64.wrapN _ bh, Mul64.wrapM (x * y)]
  rw [hhi]
  go_ret2
  exact ⟨rfl, rfl⟩

/-- What a product tells: what it is, if it is not too great. -/
def TmSays (a b : Int) (w : World) (e : Ending) (w' : World) : Prop := e = .returned (.tuple #[.int .i64 (if (a * b).natAbs ≤ 576460752303423488 then a * b else 0), .int .i64 (if (a * b).natAbs ≤ 576460752303423488 then 0 else 11)]) ∧ w = w'

theorem abs_mul (m n : Nat) : ((m : Int) * (n : Int)).natAbs = m * n ∧ (-(m : Int) * (n : Int)).natAbs = m * n ∧ ((m : Int) * -(n : Int)).natAbs = m * n ∧ (-(m : Int) * -(n : Int)).natAbs = m * n := by
  simp [Int.natAbs_mul]
theorem hi_zero {p : Nat} (h : p ≤ 576460752303423488) : p / 18446744073709551616 = 0 ∧ p % 18446744073709551616 = p := by omega
theorem big_or {p : Nat} (h : ¬ p ≤ 576460752303423488) : 0 < p / 18446744073709551616 ∨ (p / 18446744073709551616 = 0 ∧ 576460752303423488 < p % 18446744073709551616) := by omega

set_option maxHeartbeats 2000000 in
theorem timesPP (m n : Nat) (w : World) (hm : m ≤ 576460752303423488) (hn : n ≤ 576460752303423488) :
    Calls Tryz.prog 190 #[.int .i64 ((m : Int)), .int .i64 ((n : Int))] w (TmSays ((m : Int)) ((n : Int)) w) := by
  have cM := mul64_any m n (by omega) (by omega) w
  have hab := (abs_mul m n).1
  have hpr : ((m : Int)) * ((n : Int)) = ((m * n : Nat) : Int) := by push_cast; rfl
  unfold TmSays
  rw [hab, hpr]
  clear hab hpr
  generalize m * n = p at cM ⊢
  have km : -(m : Int) ≤ (m : Int) := by omega
  have jm : decide ((m : Int) < 0) = false := by simp
  have kn : -(n : Int) ≤ (n : Int) := by omega
  have jn : decide ((n : Int) < 0) = false := by simp
  by_cases hp : p ≤ 576460752303423488
  · rw [(hi_zero hp).1, (hi_zero hp).2] at cM
    rw [if_pos hp, if_pos hp]
    have hp2 : (p : Int) ≤ 576460752303423488 := by omega
    go_enter Tryz.func190, Tryz.ntmps190
    go_wp2_with (go_at_call 212; refine cM.mono ?_; rintro e w5 ⟨rfl, rfl⟩)
    go_ret2
    exact ⟨rfl, rfl⟩
  · rw [if_neg hp, if_neg hp]
    rcases big_or hp with h | ⟨h, h'⟩
    · have h1 : (0 : Int) < ((p / 18446744073709551616 : Nat) : Int) := by omega
      generalize p / 18446744073709551616 = hi at cM h1
      generalize p % 18446744073709551616 = lo at cM
      clear h hp
      go_enter Tryz.func190, Tryz.ntmps190
      go_wp2_with (go_at_call 212; refine cM.mono ?_; rintro e w5 ⟨rfl, rfl⟩)
      go_ret2
      exact ⟨rfl, rfl⟩
    · have h1 : (576460752303423488 : Int) < ((p % 18446744073709551616 : Nat) : Int) := by omega
      rw [h] at cM
      generalize p % 18446744073709551616 = lo at cM h1
      clear h h' hp
      go_enter Tryz.func190, Tryz.ntmps190
      go_wp2_with (go_at_call 212; refine cM.mono ?_; rintro e w5 ⟨rfl, rfl⟩)
      go_ret2
      exact ⟨rfl, rfl⟩

set_option maxHeartbeats 2000000 in
theorem timesPN (m n : Nat) (w : World) (hm : m ≤ 576460752303423488) (hn : n ≤ 576460752303423488) (hn1 : 1 ≤ n) :
    Calls Tryz.prog 190 #[.int .i64 ((m : Int)), .int .i64 ((-(n : Int)))] w (TmSays ((m : Int)) ((-(n : Int))) w) := by
  have cM := mul64_any m n (by omega) (by omega) w
  have hab := (abs_mul m n).2.2.1
  have hpr : ((m : Int)) * ((-(n : Int))) = -((m * n : Nat) : Int) := by push_cast; rw [Int.mul_neg]
  unfold TmSays
  rw [hab, hpr]
  clear hab hpr
  generalize m * n = p at cM ⊢
  have km : -(m : Int) ≤ (m : Int) := by omega
  have jm : decide ((m : Int) < 0) = false := by simp
  have kn : ¬ (n : Int) ≤ -(n : Int) := by omega
  have jn : decide (-(n : Int) < 0) = true := by simp; omega
  have zn : decide (0 < n) = true := by simp; omega
  by_cases hp : p ≤ 576460752303423488
  · rw [(hi_zero hp).1, (hi_zero hp).2] at cM
    rw [if_pos hp, if_pos hp]
    have hp2 : (p : Int) ≤ 576460752303423488 := by omega
    go_enter Tryz.func190, Tryz.ntmps190
    go_wp2_with (go_at_call 212; refine cM.mono ?_; rintro e w5 ⟨rfl, rfl⟩)
    go_ret2
    exact ⟨rfl, rfl⟩
  · rw [if_neg hp, if_neg hp]
    rcases big_or hp with h | ⟨h, h'⟩
    · have h1 : (0 : Int) < ((p / 18446744073709551616 : Nat) : Int) := by omega
      generalize p / 18446744073709551616 = hi at cM h1
      generalize p % 18446744073709551616 = lo at cM
      clear h hp
      go_enter Tryz.func190, Tryz.ntmps190
      go_wp2_with (go_at_call 212; refine cM.mono ?_; rintro e w5 ⟨rfl, rfl⟩)
      go_ret2
      exact ⟨rfl, rfl⟩
    · have h1 : (576460752303423488 : Int) < ((p % 18446744073709551616 : Nat) : Int) := by omega
      rw [h] at cM
      generalize p % 18446744073709551616 = lo at cM h1
      clear h h' hp
      go_enter Tryz.func190, Tryz.ntmps190
      go_wp2_with (go_at_call 212; refine cM.mono ?_; rintro e w5 ⟨rfl, rfl⟩)
      go_ret2
      exact ⟨rfl, rfl⟩

set_option maxHeartbeats 2000000 in
theorem timesNP (m n : Nat) (w : World) (hm : m ≤ 576460752303423488) (hn : n ≤ 576460752303423488) (hm1 : 1 ≤ m) :
    Calls Tryz.prog 190 #[.int .i64 ((-(m : Int))), .int .i64 ((n : Int))] w (TmSays ((-(m : Int))) ((n : Int)) w) := by
  have cM := mul64_any m n (by omega) (by omega) w
  have hab := (abs_mul m n).2.1
  have hpr : ((-(m : Int))) * ((n : Int)) = -((m * n : Nat) : Int) := by push_cast; rw [Int.neg_mul]
  unfold TmSays
  rw [hab, hpr]
  clear hab hpr
  generalize m * n = p at cM ⊢
  have km : ¬ (m : Int) ≤ -(m : Int) := by omega
  have jm : decide (-(m : Int) < 0) = true := by simp; omega
  have zm : decide (0 < m) = true := by simp; omega
  have kn : -(n : Int) ≤ (n : Int) := by omega
  have jn : decide ((n : Int) < 0) = false := by simp
  by_cases hp : p ≤ 576460752303423488
  · rw [(hi_zero hp).1, (hi_zero hp).2] at cM
    rw [if_pos hp, if_pos hp]
    have hp2 : (p : Int) ≤ 576460752303423488 := by omega
    go_enter Tryz.func190, Tryz.ntmps190
    go_wp2_with (go_at_call 212; refine cM.mono ?_; rintro e w5 ⟨rfl, rfl⟩)
    go_ret2
    exact ⟨rfl, rfl⟩
  · rw [if_neg hp, if_neg hp]
    rcases big_or hp with h | ⟨h, h'⟩
    · have h1 : (0 : Int) < ((p / 18446744073709551616 : Nat) : Int) := by omega
      generalize p / 18446744073709551616 = hi at cM h1
      generalize p % 18446744073709551616 = lo at cM
      clear h hp
      go_enter Tryz.func190, Tryz.ntmps190
      go_wp2_with (go_at_call 212; refine cM.mono ?_; rintro e w5 ⟨rfl, rfl⟩)
      go_ret2
      exact ⟨rfl, rfl⟩
    · have h1 : (576460752303423488 : Int) < ((p % 18446744073709551616 : Nat) : Int) := by omega
      rw [h] at cM
      generalize p % 18446744073709551616 = lo at cM h1
      clear h h' hp
      go_enter Tryz.func190, Tryz.ntmps190
      go_wp2_with (go_at_call 212; refine cM.mono ?_; rintro e w5 ⟨rfl, rfl⟩)
      go_ret2
      exact ⟨rfl, rfl⟩

set_option maxHeartbeats 2000000 in
theorem timesNN (m n : Nat) (w : World) (hm : m ≤ 576460752303423488) (hn : n ≤ 576460752303423488) (hm1 : 1 ≤ m) (hn1 : 1 ≤ n) :
    Calls Tryz.prog 190 #[.int .i64 ((-(m : Int))), .int .i64 ((-(n : Int)))] w (TmSays ((-(m : Int))) ((-(n : Int))) w) := by
  have cM := mul64_any m n (by omega) (by omega) w
  have hab := (abs_mul m n).2.2.2
  have hpr : ((-(m : Int))) * ((-(n : Int))) = ((m * n : Nat) : Int) := by push_cast; rw [Int.neg_mul_neg]
  unfold TmSays
  rw [hab, hpr]
  clear hab hpr
  generalize m * n = p at cM ⊢
  have km : ¬ (m : Int) ≤ -(m : Int) := by omega
  have jm : decide (-(m : Int) < 0) = true := by simp; omega
  have zm : decide (0 < m) = true := by simp; omega
  have kn : ¬ (n : Int) ≤ -(n : Int) := by omega
  have jn : decide (-(n : Int) < 0) = true := by simp; omega
  have zn : decide (0 < n) = true := by simp; omega
  by_cases hp : p ≤ 576460752303423488
  · rw [(hi_zero hp).1, (hi_zero hp).2] at cM
    rw [if_pos hp, if_pos hp]
    have hp2 : (p : Int) ≤ 576460752303423488 := by omega
    go_enter Tryz.func190, Tryz.ntmps190
    go_wp2_with (go_at_call 212; refine cM.mono ?_; rintro e w5 ⟨rfl, rfl⟩)
    go_ret2
    exact ⟨rfl, rfl⟩
  · rw [if_neg hp, if_neg hp]
    rcases big_or hp with h | ⟨h, h'⟩
    · have h1 : (0 : Int) < ((p / 18446744073709551616 : Nat) : Int) := by omega
      generalize p / 18446744073709551616 = hi at cM h1
      generalize p % 18446744073709551616 = lo at cM
      clear h hp
      go_enter Tryz.func190, Tryz.ntmps190
      go_wp2_with (go_at_call 212; refine cM.mono ?_; rintro e w5 ⟨rfl, rfl⟩)
      go_ret2
      exact ⟨rfl, rfl⟩
    · have h1 : (576460752303423488 : Int) < ((p % 18446744073709551616 : Nat) : Int) := by omega
      rw [h] at cM
      generalize p % 18446744073709551616 = lo at cM h1
      clear h h' hp
      go_enter Tryz.func190, Tryz.ntmps190
      go_wp2_with (go_at_call 212; refine cM.mono ?_; rintro e w5 ⟨rfl, rfl⟩)
      go_ret2
      exact ⟨rfl, rfl⟩

theorem times_any (a b : Int) (w : World) (ha : a.natAbs ≤ 576460752303423488) (hb : b.natAbs ≤ 576460752303423488) :
    Calls Tryz.prog 190 #[.int .i64 a, .int .i64 b] w (TmSays a b w) := by
  by_cases h1 : 0 ≤ a <;> by_cases h2 : 0 ≤ b
  · have := timesPP a.natAbs b.natAbs w ha hb
    rwa [show ((a.natAbs : Nat) : Int) = a by omega, show ((b.natAbs : Nat) : Int) = b by omega] at this
  · have := timesPN a.natAbs b.natAbs w ha hb (by omega)
    rwa [show ((a.natAbs : Nat) : Int) = a by omega, show -((b.natAbs : Nat) : Int) = b by omega] at this
  · have := timesNP a.natAbs b.natAbs w ha hb (by omega)
    rwa [show -((a.natAbs : Nat) : Int) = a by omega, show ((b.natAbs : Nat) : Int) = b by omega] at this
  · have := timesNN a.natAbs b.natAbs w ha hb (by omega) (by omega)
    rwa [show -((a.natAbs : Nat) : Int) = a by omega, show -((b.natAbs : Nat) : Int) = b by omega] at this
end Go.Proofs.YtlhobpknflobgaaGreatDoor
