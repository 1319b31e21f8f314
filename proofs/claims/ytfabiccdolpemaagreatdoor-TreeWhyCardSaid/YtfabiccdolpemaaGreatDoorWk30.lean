/-
  A law's wakes, run by the closed runner: the rest. Conditions: the variables that it reads are laid.
-/
import Derived.Test.YtfabiccdolpemaaGreatDoorWk30d
namespace Go.Proofs.YtfabiccdolpemaaGreatDoor.Sx
open Go.RowKit
set_option maxRecDepth 100000
theorem irRun30 (lay : Nat → List Kd) (tys : Nat → Nat) : okv (run (wkM30 lay) irTab30 (listOrc wkP30_68) 100000 200 (.fn 6) [] (startL 7 told30 tys)) = true := (congrArg (fun r : CallT => okv (r (.fn 6) [] (startL 7 told30 tys))) (run_u (wkM30 lay) irTab30 wkP30_68 100000 200)).trans (by kernel_rfl)
/-- The law's wakes, at any memory in which the variables that it reads are laid. -/
theorem wakes30 {ρ : Cx} (hp : ρ.prog = Tryz.prog) (hρ : ∀ j, scalV (ρ j)) (h0 : ρ 0 = .pointer (some ⟨7, 26, none⟩)) (hl : (2, letterVals30) ∈ ρ.tl) (hE : (0, [.iface 88 (.agg #[ρ 0])]) ∈ ρ.tl) (ht1 : (1, tabVals30_1) ∈ ρ.tl) (ht3 : (3, tabVals30_3) ∈ ρ.tl) : PureC Tryz.prog ρ 6 [] (.b true) := by
  have run : ∀ (w : World) (M : Mem), MemOk M w → ToldM ρ.tl M → Calls Tryz.prog 6 #[] w fun e w' => e = .returned (.bool true) ∧ Below w.heap.size w w' := fun w M hM hT => by
    refine (shut_of hρ (wkM_ok30 hp) follows_mix30 irTab_ok30 (orc := listOrc wkP30_68) (fun B => listOrc_ok (wkP_ok30_68 hp hρ h0 B)) (L := told30) (by rw [size_g30]; decide) (fun p hp => ?_) (fun p hp => ?_) (fun tys => by rw [size_g30]; exact irRun30 _ tys) hM hT).2
    · simp only [told30, List.mem_cons, List.not_mem_nil, or_false] at hp
      rw [size_g30]
      rcases hp with rfl | rfl | rfl | rfl <;> decide
    · simp only [told30, List.mem_cons, List.not_mem_nil, or_false] at hp
      rcases hp with rfl | rfl | rfl | rfl
      · exact ⟨_, hl, by simp [letterVals30, VRs, VR, VR.VRs]⟩
      · exact ⟨_, hE, _, _, rfl, ⟨_, rfl, #[ρ 0], rfl, _, _, rfl, rfl, rfl⟩, rfl⟩
      · exact ⟨_, ht1, strs_vrs (by decide)⟩
      · exact ⟨_, ht3, strs_vrs (by decide)⟩
  refine ⟨fun vs w => enter_of' Tryz.func6 (by kernel_rfl) (by kernel_rfl) vs w, fun w M vs hM hT hv => ?_⟩
  have hvs : vs = #[] := Array.toList_inj.1 hv
  subst hvs
  refine (run w M hM hT).mono ?_
  rintro e w' ⟨rfl, hb⟩
  exact ⟨_, M, rfl, fun _ _ q => q, fun _ _ q => .inl q, memOk_below hM hb, rfl, hb⟩
end Go.Proofs.YtfabiccdolpemaaGreatDoor.Sx
