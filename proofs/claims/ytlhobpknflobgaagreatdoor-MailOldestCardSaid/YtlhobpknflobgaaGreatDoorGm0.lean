/-
  guard.may. Conditions: the terms lie as 'TrV' says, the names as 'Binds' says.
-/
import Derived.Test.YtlhobpknflobgaaGreatDoorS12
namespace Go.Proofs.YtlhobpknflobgaaGreatDoor
open Go.RowKit

def badT (b : Bd) : Bool := !(chkT b.t == 0)
/-- May all binds' terms be? -/
def gmayB (l : List Bd) : Bool := !l.any badT

set_option maxHeartbeats 2000000 in
set_option maxRecDepth 100000 in
theorem indexG_any {F : Nat → Prop} {P : Bd → Bool} {l : List Bd} {w : World} {v : Value} (hl : Binds F w v l)
    (hP : ∀ x ∈ l, ∀ (W : World) (sv : Value), Below w.heap.size w W → TrV F W x.t sv → x.s.size ≤ BL * 64 → Calls Tryz.prog 98 #[.agg #[.string x.s, .int .i8 x.t.k, .int .i64 x.t.n, .string x.t.s, .string x.t.t, sv]] W fun e w' => e = .returned (.bool (P x)) ∧ Below W.heap.size W w') :
    Calls Tryz.prog 65 #[v, .func (Fn.func 98) #[] #[]] w fun e w' => e = .returned (.int .i64 (idxB P l)) ∧ Below w.heap.size w w' := by
  obtain ⟨p, c, rfl⟩ := hl.slice
  have hlen : l.length ≤ 2199023255552 := hl.len
  have HF := Lib.hid hP
  have HL := Lib.hid hl
  clear hP hl
  go_enter Tryz.func65, Tryz.ntmps65
  go_wp2
  go_loopw [8] (fun i wr => ∃ k : Nat, k ≤ l.length ∧ i = .int .i64 k ∧ (l.take k).all (fun x => !P x) = true ∧ Below w.heap.size w wr) (fun i _ => l.length - (intOf i).toNat)
  case atStart => exact ⟨0, Nat.zero_le _, rfl, rfl, Below.refl _ _⟩
  case round =>
    obtain ⟨k, hk, rfl, hall, hbr⟩ := hrel
    by_cases hlt : k < l.length
    · obtain ⟨g, o, kv, rfl, _, hs0, hsz, ⟨a0, a1, a2, a3, a4⟩, hkid⟩ := (HL.out.under hbr).at hlt
      have cK := HF.out l[k] (List.getElem_mem hlt) wr kv hbr hkid hsz
      cases hq : P l[k]
      · have hnext : (l.take (k + 1)).all (fun x => !P x) = true := by
          rw [List.take_succ_eq_append_getElem hlt, List.all_append, hall]; simp [hq]
        rw [hq] at cK
        have HN := Lib.hid hnext
        clear hnext hall hq hkid
        go_wp2_with (go_at_call 98; refine cK.mono ?_; rintro e w5 ⟨rfl, hb5⟩)
        go_roundw
        case rel => exact ⟨k + 1, hlt, by go_num, HN.out, hbr.trans (hb5.mono hbr.size)⟩
        case measure => simp [intOf]; omega
      · have hfin := idx_here hlt hall hq
        rw [hq] at cK
        have HN := Lib.hid hfin
        clear hfin hall hq hkid
        go_wp2_with (go_at_call 98; refine cK.mono ?_; rintro e w5 ⟨rfl, hb5⟩)
        go_ret
        exact ⟨by rw [HN.out] <;> rfl, hbr.trans (hb5.mono hbr.size)⟩
    · rw [List.take_of_length_le (by omega)] at hall
      have HN := Lib.hid (idx_none hall)
      clear hall
      go_wp2
      go_ret
      exact ⟨by rw [HN.out] <;> rfl, hbr⟩

set_option maxHeartbeats 400000 in
theorem containsG_any {F : Nat → Prop} {P : Bd → Bool} {l : List Bd} {w : World} {v : Value} (hl : Binds F w v l)
    (hP : ∀ x ∈ l, ∀ (W : World) (sv : Value), Below w.heap.size w W → TrV F W x.t sv → x.s.size ≤ BL * 64 → Calls Tryz.prog 98 #[.agg #[.string x.s, .int .i8 x.t.k, .int .i64 x.t.n, .string x.t.s, .string x.t.t, sv]] W fun e w' => e = .returned (.bool (P x)) ∧ Below W.heap.size W w') :
    Calls Tryz.prog 97 #[v, .func (Fn.func 98) #[] #[]] w fun e w' => e = .returned (.bool (l.any P)) ∧ Below w.heap.size w w' := by
  have cI := indexG_any hl hP
  have h0 := idx_any P l
  obtain ⟨p, c, rfl⟩ := hl.slice
  clear hl hP
  generalize idxB P l = k at cI h0
  go_enter Tryz.func97, Tryz.ntmps97
  go_wp2_with (go_at_call 65; refine cI.mono ?_; rintro e w5 ⟨rfl, hb5⟩)
  all_goals
    go_ret
    exact ⟨ret_bool (by rw [← h0] <;> simp), hb5⟩


set_option maxHeartbeats 2000000 in
set_option maxRecDepth 100000 in
theorem gmay1_any {F : Nat → Prop} {W : World} {b : Bd} {sv : Value} (hL : Letters W) (hx : TrV F W b.t sv) :
    Calls Tryz.prog 98 #[.agg #[.string b.s, .int .i8 b.t.k, .int .i64 b.t.n, .string b.t.s, .string b.t.t, sv]] W fun e w' => e = .returned (.bool (badT b)) ∧ Below W.heap.size W w' := by
  obtain ⟨a0, a1, a2, a3, a4, a5⟩ := box6 W (.string b.s) (.int .i8 b.t.k) (.int .i64 b.t.n) (.string b.t.s) (.string b.t.t) sv 40
  have hb := alloc_below W (.cells #[.string b.s, .int .i8 b.t.k, .int .i64 b.t.n, .string b.t.s, .string b.t.t, sv] 40)
  have cC := tcheck_any (hL.under hb) (hx.below hb)
  have HB := Lib.hid (show badT b = !(chkT b.t == 0) from rfl)
  clear hL hx
  generalize chkT b.t = q at cC HB
  go_enter Tryz.func98, Tryz.ntmps98
  go_wp2_with (go_at_call 79; refine cC.mono ?_; rintro e w6 ⟨rfl, hb6⟩)
  go_ret
  exact ⟨by rw [HB.out]; rfl, hb.trans (hb6.mono hb.size)⟩

set_option maxHeartbeats 1000000 in
theorem gmay_any {F : Nat → Prop} {w : World} {v : Value} {l : List Bd} (hL : Letters w) (hl : Binds F w v l) :
    Calls Tryz.prog 55 #[v] w fun e w' => e = .returned (.bool (gmayB l)) ∧ Below w.heap.size w w' := by
  have cC := containsG_any (P := badT) hl fun x _ W sv hb hx hs => gmay1_any (hL.under hb) hx
  obtain ⟨p, c, rfl⟩ := hl.slice
  clear hl hL
  unfold gmayB
  generalize l.any badT = q at cC
  go_enter Tryz.func55, Tryz.ntmps55
  go_wp2_with (go_at_call 97; refine cC.mono ?_; rintro e w5 ⟨rfl, hb5⟩)
  go_ret
  exact ⟨rfl, hb5⟩
end Go.Proofs.YtlhobpknflobgaaGreatDoor
