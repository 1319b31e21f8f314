/-
  A law's wakes, run by the closed runner: the rest. Conditions: the variables that it reads are laid.
-/
import Derived.Test.YtkieoghkjjkapaaGreatDoorWk18d
namespace Go.Proofs.YtkieoghkjjkapaaGreatDoor.Sx
open Go.RowKit
set_option maxRecDepth 100000
theorem irRun18 (lay : Nat → List Kd) (tys : Nat → Nat) : okv (run (wkM18 lay) irTab18 (listOrc wkP18_16) 100000 200 (.fn 5) [] (startL 6 told18 tys)) = true := (congrArg (fun r : CallT => okv (r (.fn 5) [] (startL 6 told18 tys))) (run_u (wkM18 lay) irTab18 wkP18_16 100000 200)).trans (by kernel_rfl)
/-- The law's wakes, at any memory in which the variables that it reads are laid. -/
theorem wakes18 {ρ : Cx} (hp : ρ.prog = Tryz.prog) (hρ : ∀ j, scalV (ρ j)) (hl : (0, letterVals18) ∈ ρ.tl) : PureC Tryz.prog ρ 5 [] (.b true) := by
  have run : ∀ (w : World) (M : Mem), MemOk M w → ToldM ρ.tl M → Calls Tryz.prog 5 #[] w fun e w' => e = .returned (.bool true) ∧ Below w.heap.size w w' := fun w M hM hT => by
    refine (shut_of hρ (wkM_ok18 hp) follows_mix18 irTab_ok18 (orc := listOrc wkP18_16) (fun B => listOrc_ok (wkP_ok18_16 hp hρ B)) (L := told18) (by rw [size_g18]; decide) (fun p hp => ?_) (fun p hp => ?_) (fun tys => by rw [size_g18]; exact irRun18 _ tys) hM hT).2
    · simp only [told18, List.mem_cons, List.not_mem_nil, or_false] at hp
      rw [size_g18]
      rcases hp with rfl <;> decide
    · simp only [told18, List.mem_cons, List.not_mem_nil, or_false] at hp
      rcases hp with rfl
      · exact ⟨_, hl, by simp [letterVals18, VRs, VR, VR.VRs]⟩
  refine ⟨fun vs w => enter_of' Tryz.func5 (by kernel_rfl) (by kernel_rfl) vs w, fun w M vs hM hT hv => ?_⟩
  have hvs : vs = #[] := Array.toList_inj.1 hv
  subst hvs
  refine (run w M hM hT).mono ?_
  rintro e w' ⟨rfl, hb⟩
  exact ⟨_, M, rfl, fun _ _ q => q, fun _ _ q => .inl q, memOk_below hM hb, rfl, hb⟩
end Go.Proofs.YtkieoghkjjkapaaGreatDoor.Sx
