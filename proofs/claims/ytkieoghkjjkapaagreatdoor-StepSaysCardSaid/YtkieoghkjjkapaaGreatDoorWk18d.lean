/-
  A law's wakes, run by the closed runner: one great call of it. Conditions: the variables that it reads are laid.
-/
import Derived.Test.YtkieoghkjjkapaaGreatDoorWk18c
namespace Go.Proofs.YtkieoghkjjkapaaGreatDoor.Sx
open Go.RowKit
set_option maxRecDepth 100000
theorem memoRun18_16_0 (lay : Nat → List Kd) (tys : Nat → Nat) : okV (.tu [(.ag [(.i .i8 0), (.i .i8 0), (.i .i64 120), (.s []), (.s []), .sln, (.i .i8 0)]), (.i .i64 136), (.i .i64 0)]) (run (wkM18 lay) irTab18 (listOrc wkP18_118) 100000 200 (.fn 16) memoA18_16_0 (memoS tys memoL18_16_0 771)) = true := (congrArg (fun r : CallT => okV (.tu [(.ag [(.i .i8 0), (.i .i8 0), (.i .i64 120), (.s []), (.s []), .sln, (.i .i8 0)]), (.i .i64 136), (.i .i64 0)]) (r (.fn 16) memoA18_16_0 (memoS tys memoL18_16_0 771))) (run_u (wkM18 lay) irTab18 wkP18_118 100000 200)).trans (by kernel_rfl)
def memoE18_16 : List (List TV × Tls × TV) := [(memoA18_16_0, memoL18_16_0, (.tu [(.ag [(.i .i8 0), (.i .i8 0), (.i .i64 120), (.s []), (.s []), .sln, (.i .i8 0)]), (.i .i64 136), (.i .i64 0)]))]
def wkP18_16 : List (Nat × (List TV → SH → Option (TV × SH))) := (16, memoOrcL memoE18_16) :: wkP18_118
theorem memo_all18_16 {ρ : Cx} (hp0 : ρ.prog = Tryz.prog) (hρ : ∀ j, scalV (ρ j)) (B : Nat) : ∀ p, p ∈ memoE18_16 → OneOk Tryz.prog ρ B 16 (memoOrc p.1 p.2.1 p.2.2) :=
  fa (memo_ok (args0 := memoA18_16_0) (L := memoL18_16_0) (nx := 771) (v0 := (.tu [(.ag [(.i .i8 0), (.i .i8 0), (.i .i64 120), (.s []), (.s []), .sln, (.i .i8 0)]), (.i .i64 136), (.i .i64 0)])) hρ (wkM_ok18 hp0) follows_mix18 irTab_ok18 (fun B => listOrc_ok (wkP_ok18_118 hp0 hρ B)) (by kernel_rfl) (by rw [size_g18]; decide) (by decide) (by kernel_rfl) (by kernel_rfl) (memoRun18_16_0 _)) <|
  fz
theorem wkP_ok18_16 {ρ : Cx} (hp0 : ρ.prog = Tryz.prog) (hρ : ∀ j, scalV (ρ j)) (B : Nat) : ∀ p, p ∈ wkP18_16 → OneOk Tryz.prog ρ B p.1 p.2 :=
  fa (memoL_ok (memo_all18_16 hp0 hρ B)) (wkP_ok18_118 hp0 hρ B)
end Go.Proofs.YtkieoghkjjkapaaGreatDoor.Sx
