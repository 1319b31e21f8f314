/-
  What pleachlaw17.wakes asks, as plain law: the mailbox of three and its two clauses. Names no function of the program.
-/
import Derived.Test.YtlhobpknflobgaaGreatDoorGm5
import Derived.Test.YtlhobpknflobgaaGreatDoorS20
namespace Go.Proofs.YtlhobpknflobgaaGreatDoor
open Go.RowKit

def sA : ByteArray := ⟨#[97]⟩
def sB : ByteArray := ⟨#[98]⟩
def sC : ByteArray := ⟨#[99]⟩
def pairN : Tr := .mk 10 0 ⟨#[]⟩ ⟨#[]⟩ [.mk 7 0 sA ⟨#[]⟩ [], .mk 5 0 ⟨#[88]⟩ ⟨#[]⟩ []]
def bN : Tr := .mk 7 0 sB ⟨#[]⟩ []
def thirdT : Tr := .mk 5 0 ⟨#[]⟩ ⟨#[]⟩ [aT sA, .mk 0 1 ⟨#[]⟩ ⟨#[]⟩ []]
theorem miss {p x : Tr} (hp : patB p = true) (hc : chkT x = 0) (hg : (p.go x []).isNone = true) : allS [p] [x] [] = ([], false, 0) := by
  have hg : p.go x [] = none := by simpa using hg
  rw [allS_one]
  unfold matchS
  rw [hp, hc]
  unfold goR
  rw [hg]
  rfl
theorem hit0 {p x : Tr} (hp : patB p = true) (hc : chkT x = 0) (hg : (p.go x []).map List.length = some 0) : allS [p] [x] [] = ([], true, 0) := by
  have hg : p.go x [] = some [] := by
    cases h : p.go x [] with
    | none => rw [h] at hg; cases hg
    | some m =>
      rw [h] at hg
      simp at hg
      rw [hg]
  rw [allS_one]
  unfold matchS
  rw [hp, hc]
  unfold goR
  rw [hg]
  rfl
/-- What the guards of the two clauses hold. -/
def gB0 (_ : Tr) : Bool := true
def gH0 (_ : Tr) (m : List Bd) : Bool := gmayB m
theorem wake17 : selS gB0 gH0 [⟨aT sC, false⟩, ⟨aT sB, false⟩, ⟨thirdT, false⟩] [clT pairN, clT bN] [] = (1, 1, [], true, 0) := by
  have h1 : allS [pairN] [aT sC] [] = ([], false, 0) := miss (by decide +kernel) (by decide +kernel) (by decide +kernel)
  have h2 : allS [bN] [aT sC] [] = ([], false, 0) := miss (by decide +kernel) (by decide +kernel) (by decide +kernel)
  have h3 : allS [pairN] [aT sB] [] = ([], false, 0) := miss (by decide +kernel) (by decide +kernel) (by decide +kernel)
  have h4 : allS [bN] [aT sB] [] = ([], true, 0) := hit0 (by decide +kernel) (by decide +kernel) (by decide +kernel)
  have k1 : hitC gH0 (clT pairN) (aT sC) [] = none := by
    unfold hitC
    rw [show (clT pairN).l.getD 0 zeroT = pairN from rfl, h1]; rfl
  have k2 : hitC gH0 (clT bN) (aT sC) [] = none := by
    unfold hitC
    rw [show (clT bN).l.getD 0 zeroT = bN from rfl, h2]; rfl
  have k3 : hitC gH0 (clT pairN) (aT sB) [] = none := by
    unfold hitC
    rw [show (clT pairN).l.getD 0 zeroT = pairN from rfl, h3]; rfl
  have k4 : hitC gH0 (clT bN) (aT sB) [] = some [] := by
    unfold hitC
    rw [show (clT bN).l.getD 0 zeroT = bN from rfl, h4]; rfl
  have hb : badS gB0 [⟨aT sC, false⟩, ⟨aT sB, false⟩, ⟨thirdT, false⟩] [clT pairN, clT bN] [] = false := by
    unfold badS
    have c1 : clB gB0 (clT pairN) = true := by decide +kernel
    have c2 : clB gB0 (clT bN) = true := by decide +kernel
    have d1 : chkT (aT sC) = 0 := by decide +kernel
    have d2 : chkT (aT sB) = 0 := by decide +kernel
    have d3 : chkT thirdT = 0 := by decide +kernel
    simp [c1, c2, d1, d2, d3, mayB]
  unfold selS
  rw [hb]
  have t1 : takeC gH0 (aT sC) [] [clT pairN, clT bN] 0 = none := by
    rw [takeC, k1]; show takeC gH0 (aT sC) [] [clT bN] 1 = none
    rw [takeC, k2]; rfl
  have t2 : takeC gH0 (aT sB) [] [clT pairN, clT bN] 0 = some (1, []) := by
    rw [takeC, k3]; show takeC gH0 (aT sB) [] [clT bN] 1 = some (1, [])
    rw [takeC, k4]
  have t3 : takeI gH0 [clT pairN, clT bN] [] [⟨aT sC, false⟩, ⟨aT sB, false⟩, ⟨thirdT, false⟩] 0 = some (1, 1, []) := by
    rw [takeI, t1]; show takeI gH0 [clT pairN, clT bN] [] [⟨aT sB, false⟩, ⟨thirdT, false⟩] 1 = some (1, 1, [])
    rw [takeI, t2]
  rw [t3]
  rfl

/-- The guards' hypotheses of the two clauses. -/
theorem guard0 {w : World} (p : Tr) : GuardSays (fun _ => True) gB0 w (clT p) := fun _ _ _ _ ht => guardEmpty_any ht
theorem holds0 {w : World} (hL : Letters w) (p : Tr) : HoldsSays gH0 w (clT p) := fun _ _ _ _ _ hb ht hm => holdsE_any (hL.under hb) ht hm
end Go.Proofs.YtlhobpknflobgaaGreatDoor
