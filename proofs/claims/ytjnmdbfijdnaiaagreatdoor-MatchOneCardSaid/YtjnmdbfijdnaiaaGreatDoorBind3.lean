/-
  match.May, pleachref10.May; match.find, pleachref10.Find. Conditions: the names lie as 'Binds' says.
-/
import Derived.Test.YtjnmdbfijdnaiaaGreatDoorBind2
namespace Go.Proofs.YtjnmdbfijdnaiaaGreatDoor
open Go.RowKit

/-- May some binds be? -/
def mayB (l : List Bd) : Bool := decide (l.length ≤ 64) && !l.any badB

set_option maxHeartbeats 1000000 in
theorem bmay_any {F : Nat → Prop} {w : World} {v : Value} {l : List Bd} (hL : Letters w) (hl : Binds F w v l) :
    Calls Tryz.prog 12 #[v] w fun e w' => e = .returned (.bool (mayB l)) ∧ Below w.heap.size w w' := by
  have hlen : l.length ≤ 2199023255552 := hl.len
  have cC := containsB_any (P := badB) hl fun x _ W sv hb hx hs => may1_any (hL.under hb) hx hs
  obtain ⟨p, c, rfl⟩ := hl.slice
  clear hl hL
  unfold mayB
  generalize l.any badB = q at cC
  by_cases h : l.length ≤ 64
  · go_enter Tryz.func12, Tryz.ntmps12
    go_wp2_with (go_at_call 30; refine cC.mono ?_; rintro e w5 ⟨rfl, hb5⟩)
    go_ret
    exact ⟨by rw [decide_eq_true h]; rfl, hb5⟩
  · go_enter Tryz.func12, Tryz.ntmps12
    go_wp2_with fail
    go_ret
    exact ⟨rfl, Below.refl _ _⟩

set_option maxHeartbeats 4000000 in
set_option maxRecDepth 100000 in
theorem rbmay_any {F : Nat → Prop} {w : World} {v : Value} {l : List Bd} (hl : Binds F w v l) :
    Calls Tryz.prog 13 #[v] w fun e w' => e = .returned (.bool (mayB l)) ∧ Below w.heap.size w w' := by
  have hlen : l.length ≤ 2199023255552 := hl.len
  obtain ⟨p, c, rfl⟩ := hl.slice
  have HL := Lib.hid hl
  have HM := Lib.hid (show mayB l = (decide (l.length ≤ 64) && !l.any badB) from rfl)
  clear hl
  by_cases h : (64 : Int) < l.length
  · go_enter Tryz.func13, Tryz.ntmps13
    go_wp2_with fail
    go_ret
    exact ⟨by rw [HM.out, decide_eq_false (by omega)]; rfl, Below.refl _ _⟩
  have HM2 := Lib.hid (HM.out.trans (by rw [decide_eq_true (by omega)]; rfl : _ = !l.any badB))
  clear HM
  go_enter Tryz.func13, Tryz.ntmps13
  go_wp2_with fail
  go_loopw [3] (fun i wr => ∃ k : Nat, k ≤ l.length ∧ i = .int .i64 k ∧ (l.take k).any badB = false ∧ Below w.heap.size w wr) (fun i _ => l.length - (intOf i).toNat)
  case atStart => exact ⟨0, Nat.zero_le _, rfl, rfl, Below.refl _ _⟩
  case round =>
    obtain ⟨k, hk, rfl, hall, hbr⟩ := hrel
    by_cases hlt : k < l.length
    · obtain ⟨g, o, kv, rfl, _, hs0, hsz, hnode, hkid⟩ := (HL.out.under hbr).at hlt
      have hsz' : l[k].s.size ≤ 140737488355328 := hsz
      have cN := rname_any wr l[k].s hsz'
      have cC := rcheck_any hkid
      obtain ⟨a0, a1, a2, a3, a4⟩ := hnode
      have hbad : badB l[k] = (undB l[k].s || (!nameA l[k].s || !(chkT l[k].t == 0))) := rfl
      have hstop : badB l[k] = true → Hid (mayB l = false) := fun h => by
        unfold Hid; rw [HM2.out, List.any_eq_true.2 ⟨l[k], List.getElem_mem hlt, h⟩]; rfl
      have hnext : badB l[k] = false → Hid ((l.take (k + 1)).any badB = false) := fun h => by
        unfold Hid; rw [List.take_succ_eq_append_getElem hlt, List.any_append, hall]; simp [h]
      have HB := Lib.hid hbad
      clear hbad hall hkid
      generalize chkT l[k].t = q at cC HB
      cases hnm : nameA l[k].s
      · have HS := hstop (by rw [HB.out, hnm]; simp)
        rw [hnm] at cN
        clear cC hstop hnext hnm
        go_wp2_with (go_at_call 31; refine cN.mono ?_; rintro e w5 ⟨rfl, rfl⟩)
        go_ret
        exact ⟨by rw [HS.out]; rfl, hbr⟩
      rw [hnm] at cN
      cases hu : (l[k].s.toList == [95])
      · by_cases hq : q = 0
        · have HN := hnext (by rw [HB.out, hnm, hq]; unfold undB; rw [hu]; rfl)
          subst hq
          clear hstop hnext hnm
          go_wp2_with (first
            | (go_at_call 31; refine cN.mono ?_; rintro e w5 ⟨rfl, rfl⟩)
            | (go_at_call 25; refine cC.mono ?_; rintro e w6 ⟨rfl, hb6⟩))
          go_roundw
          case rel => exact ⟨k + 1, hlt, by go_num, HN.out, hbr.trans (hb6.mono hbr.size)⟩
          case measure => simp [intOf]; omega
        · have hq' : (q == 0) = false := by simpa using hq
          have hq2 : (q != 0) = true := by simpa using hq
          have HS := hstop (by rw [HB.out, hnm, hq']; simp)
          clear hstop hnext hnm hq
          go_wp2_with (first
            | (go_at_call 31; refine cN.mono ?_; rintro e w5 ⟨rfl, rfl⟩)
            | (go_at_call 25; refine cC.mono ?_; rintro e w6 ⟨rfl, hb6⟩))
          go_ret
          exact ⟨by rw [HS.out]; rfl, hbr.trans (hb6.mono hbr.size)⟩
      · have HS := hstop (by rw [HB.out]; unfold undB; rw [hu]; rfl)
        clear cC hstop hnext hnm
        go_wp2_with (go_at_call 31; refine cN.mono ?_; rintro e w5 ⟨rfl, rfl⟩)
        go_ret
        exact ⟨by rw [HS.out]; rfl, hbr⟩
    · rw [List.take_of_length_le (by omega)] at hall
      have HN : Hid (mayB l = true) := by unfold Hid; rw [HM2.out, hall]; rfl
      clear hall
      go_wp2
      go_ret
      exact ⟨by rw [HN.out]; rfl, hbr⟩
end Go.Proofs.YtjnmdbfijdnaiaaGreatDoor
