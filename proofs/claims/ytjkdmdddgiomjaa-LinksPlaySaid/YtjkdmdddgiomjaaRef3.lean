/-
  The reference's Links and Linked. Conditions: as said.
-/
import Derived.Test.YtjkdmdddgiomjaaRef2
import Derived.Deep.RegionHeld3
namespace Go.Proofs.Ytjkdmdddgiomjaa
open Go.RowKit Go.Maps

def linkStep (a : Int) (o : List Int) (m : Int × Int) : List Int :=
  let o1 := if m.1 == a then putS m.2 o else o
  if m.2 == a then putS m.1 o1 else o1
def linksR (a : Int) (ll : List (Int × Int)) : List Int := ll.foldl (linkStep a) []
theorem linksR_succ {a : Int} {ll : List (Int × Int)} {k : Nat} (hk : k < ll.length) : linksR a (ll.take (k + 1)) = linkStep a (linksR a (ll.take k)) ll[k] := by
  unfold linksR
  rw [List.take_succ_eq_append_getElem hk, List.foldl_append]
  rfl
theorem len_putS (n : Int) : ∀ l : List Int, (putS n l).length = l.length + 1
  | [] => rfl
  | x :: r => by
    unfold putS
    split
    · rfl
    · simp [len_putS n r]
theorem len_linkStep (a : Int) (o : List Int) (m : Int × Int) : (linkStep a o m).length ≤ o.length + 2 := by
  unfold linkStep
  cases m.1 == a <;> cases m.2 == a <;> simp [len_putS]
theorem len_linksR {a : Int} {ll : List (Int × Int)} : ∀ {k : Nat}, k ≤ ll.length → (linksR a (ll.take k)).length ≤ 2 * k
  | 0, _ => by simp [linksR]
  | k + 1, hk => by
    rw [linksR_succ hk]
    have h1 := len_linkStep a (linksR a (ll.take k)) ll[k]
    have h2 := len_linksR (a := a) (ll := ll) (k := k) (by omega)
    omega

theorem NewInts.rebase {w wr w1 : World} {v : Value} {l : List Int} (h : NewInts wr w1 v l) (hs : w.heap.size ≤ wr.heap.size) : NewInts w w1 v l := ⟨ownsRow_base_a h.1 hs, h.2⟩

section
variable {w w' : World} {R : Nat} {ll : List (Int × Int)} {M : List (Int × Int × Int)} {last : Int} {vL vM : Value}
def LinksRel (a : Int) (ll : List (Int × Int)) (w : World) (out : Value) (i : Value) (wr : World) : Prop :=
  ∃ k : Nat, k ≤ ll.length ∧ i = .int .i64 k ∧ NewInts w wr out (linksR a (ll.take k)) ∧ Below w.heap.size w wr

set_option maxHeartbeats 1000000 in
set_option maxRecDepth 100000 in
theorem rlinks_any (h : RefW w R ll M last vL vM) (hL : ll.length ≤ 1000) (a : Int) :
    Calls Try.prog 24 #[.pointer (some ⟨R, 0, none⟩), .int .i64 a] w fun e w' => ∃ v, e = .returned v ∧ NewInts w w' v (linksR a ll) ∧ Below w.heap.size w w' := by
  have hc1 := h.cell0
  have hR := h.lt
  obtain ⟨pm, cm, rfl, hcm, hcells⟩ := h.rl.at
  have HC := Lib.hid hcells
  clear h hcells
  go_enter Try.func24, Try.ntmps24
  go_wp2
  go_loopw [5, 6] (fun o i wr => LinksRel a ll w o i wr) (fun _ i _ => ll.length - (intOf i).toNat)
  case atStart => exact ⟨0, Nat.zero_le _, rfl, ⟨World.ownsRow_nil .., by simp [linksR]⟩, Below.refl _ _⟩
  case round =>
    obtain ⟨k, hk, rfl, hO, hB⟩ := hrel
    have hc1' := (hB.cell (p := ⟨R, 0, none⟩) hR).trans hc1
    have hsz1 := hB.size
    by_cases hlt : k < ll.length
    · have hltz : (k : Int) < (ll.length : Int) := by omega
      obtain ⟨g, rfl, e0, e1⟩ := HC.out k hlt
      have hgl := cell_lt e0
      have e0' := (hB.cell (p := ⟨g, k * 2, none⟩) hgl).trans e0
      have e1' := (hB.cell (p := ⟨g, k * 2 + 1, none⟩) hgl).trans e1
      have hlen := len_linksR (a := a) (ll := ll) hk
      have hnext := linksR_succ (a := a) hlt
      have HNEXT := Lib.hid hnext
      clear hnext
      generalize linksR a (ll.take k) = o at hO hlen HNEXT
      have hl1 : o.length < BN := by unfold BN; omega
      have hl2 : ∀ x : Int, (putS x o).length < BN := fun x => by rw [len_putS]; unfold BN; omega
      have hmove : ∀ W : World, Below wr.heap.size wr W → W.cell? ⟨R, 0, none⟩ = some (.slice (some ⟨g, 0, none⟩) ll.length cm) ∧ W.cell? ⟨g, k * 2, none⟩ = some (.int .i64 ll[k].1) ∧ W.cell? ⟨g, k * 2 + 1, none⟩ = some (.int .i64 ll[k].2) := fun W hb =>
        ⟨(hb.cell (p := ⟨R, 0, none⟩) (cell_lt hc1')).trans hc1', (hb.cell (p := ⟨g, k * 2, none⟩) (cell_lt e0')).trans e0', (hb.cell (p := ⟨g, k * 2 + 1, none⟩) (cell_lt e0')).trans e1'⟩
      cases q0 : (ll[k].1 == a) <;> cases q1 : (ll[k].2 == a)
      · have hstep : linkStep a o ll[k] = o := by simp [linkStep, q0, q1]
        rw [hstep] at HNEXT
        clear hstep
        go_wp2
        go_roundw
        case rel => exact ⟨k + 1, hlt, by go_num, by rw [HNEXT.out]; exact hO, hB⟩
        case measure => simp [intOf]; omega
      · have hstep : linkStep a o ll[k] = putS ll[k].1 o := by simp [linkStep, q0, q1]
        rw [hstep] at HNEXT
        clear hstep
        go_wp2_with (go_at_call 42; refine (put_any hO.at hl1 _).mono ?_; rintro e w1 ⟨v1, rfl, hv1, hb1⟩)
        go_roundw
        case rel => exact ⟨k + 1, hlt, by go_num, by rw [HNEXT.out]; exact hv1.rebase hsz1, hB.trans (hb1.mono hsz1)⟩
        case measure => simp [intOf]; omega
      · have hstep : linkStep a o ll[k] = putS ll[k].2 o := by simp [linkStep, q0, q1]
        rw [hstep] at HNEXT
        clear hstep
        go_wp2_with (go_at_call 42; refine (put_any hO.at hl1 _).mono ?_; rintro e w1 ⟨v1, rfl, hv1, hb1⟩; obtain ⟨f0, f1, f2⟩ := hmove _ hb1)
        go_roundw
        case rel => exact ⟨k + 1, hlt, by go_num, by rw [HNEXT.out]; exact hv1.rebase hsz1, hB.trans (hb1.mono hsz1)⟩
        case measure => simp [intOf]; omega
      · have hstep : linkStep a o ll[k] = putS ll[k].1 (putS ll[k].2 o) := by simp [linkStep, q0, q1]
        rw [hstep] at HNEXT
        clear hstep
        go_upto_region 7 with (go_at_call 42; refine (put_any hO.at hl1 _).mono ?_; rintro e w1 ⟨v1, rfl, hv1, hb1⟩; obtain ⟨f0, f1, f2⟩ := hmove _ hb1)
        go_wp2_with (go_at_call 42; refine (put_any hv1.at (hl2 _) _).mono ?_; rintro e w2 ⟨v2, rfl, hv2, hb2⟩)
        have hB1 := hB.trans (hb1.mono hsz1)
        go_roundw
        case rel => exact ⟨k + 1, hlt, by go_num, by rw [HNEXT.out]; exact hv2.rebase hB1.size, hB1.trans (hb2.mono hB1.size)⟩
        case measure => simp [intOf]; omega
    · go_wp2
      go_ret
      have hkM : k = ll.length := by omega
      subst hkM
      rw [List.take_length] at hO
      exact ⟨_, rfl, hO, hB⟩
end
end Go.Proofs.Ytjkdmdddgiomjaa
