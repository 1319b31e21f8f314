/-
  A law's wakes, run by the closed runner: one great call of it. Conditions: the variables that it reads are laid.
-/
import Derived.Test.YtfabiccdolpemaaGreatDoorWk30c
namespace Go.Proofs.YtfabiccdolpemaaGreatDoor.Sx
open Go.RowKit
set_option maxRecDepth 100000
theorem memoRun30_68_0 (lay : Nat → List Kd) (tys : Nat → Nat) : okV (.b true) (run (wkM30 lay) irTab30 (listOrc wkP30_26) 100000 200 (.fn 68) memoA30_68_0 (memoS tys memoL30_68_0 773)) = true := (congrArg (fun r : CallT => okV (.b true) (r (.fn 68) memoA30_68_0 (memoS tys memoL30_68_0 773))) (run_u (wkM30 lay) irTab30 wkP30_26 100000 200)).trans (by kernel_rfl)
theorem memoRun30_68_1 (lay : Nat → List Kd) (tys : Nat → Nat) : okV (.b true) (run (wkM30 lay) irTab30 (listOrc wkP30_26) 100000 200 (.fn 68) memoA30_68_1 (memoS tys memoL30_68_1 1102)) = true := (congrArg (fun r : CallT => okV (.b true) (r (.fn 68) memoA30_68_1 (memoS tys memoL30_68_1 1102))) (run_u (wkM30 lay) irTab30 wkP30_26 100000 200)).trans (by kernel_rfl)
def memoE30_68 : List (List TV × Tls × TV) := [(memoA30_68_0, memoL30_68_0, (.b true)), (memoA30_68_1, memoL30_68_1, (.b true))]
def wkP30_68 : List (Nat × (List TV → SH → Option (TV × SH))) := (68, memoOrcL memoE30_68) :: wkP30_26
theorem memo_all30_68 {ρ : Cx} (hp0 : ρ.prog = Tryz.prog) (hρ : ∀ j, scalV (ρ j)) (h0 : ρ 0 = .pointer (some ⟨7, 26, none⟩)) (B : Nat) : ∀ p, p ∈ memoE30_68 → OneOk Tryz.prog ρ B 68 (memoOrc p.1 p.2.1 p.2.2) :=
  fa (memo_ok (args0 := memoA30_68_0) (L := memoL30_68_0) (nx := 773) (v0 := (.b true)) hρ (wkM_ok30 hp0) follows_mix30 irTab_ok30 (fun B => listOrc_ok (wkP_ok30_26 hp0 hρ h0 B)) (by kernel_rfl) (by rw [size_g30]; decide) (by decide) (by kernel_rfl) (by kernel_rfl) (memoRun30_68_0 _)) <|
  fa (memo_ok (args0 := memoA30_68_1) (L := memoL30_68_1) (nx := 1102) (v0 := (.b true)) hρ (wkM_ok30 hp0) follows_mix30 irTab_ok30 (fun B => listOrc_ok (wkP_ok30_26 hp0 hρ h0 B)) (by kernel_rfl) (by rw [size_g30]; decide) (by decide) (by kernel_rfl) (by kernel_rfl) (memoRun30_68_1 _)) <|
  fz
theorem wkP_ok30_68 {ρ : Cx} (hp0 : ρ.prog = Tryz.prog) (hρ : ∀ j, scalV (ρ j)) (h0 : ρ 0 = .pointer (some ⟨7, 26, none⟩)) (B : Nat) : ∀ p, p ∈ wkP30_68 → OneOk Tryz.prog ρ B p.1 p.2 :=
  fa (memoL_ok (memo_all30_68 hp0 hρ h0 B)) (wkP_ok30_26 hp0 hρ h0 B)
end Go.Proofs.YtfabiccdolpemaaGreatDoor.Sx
