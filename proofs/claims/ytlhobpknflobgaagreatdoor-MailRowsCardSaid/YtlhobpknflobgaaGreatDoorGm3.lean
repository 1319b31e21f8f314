/-
  mail.Select's two searches. Conditions: the trees lie as 'TrV' says, the items as 'Items'.
-/
import Derived.Test.YtlhobpknflobgaaGreatDoorGm2
namespace Go.Proofs.YtlhobpknflobgaaGreatDoor
open Go.RowKit

/-- ast.Guard answers gB for the second part of a clause, in any world behind w. -/
def GuardSays (F : Nat → Prop) (gB : Tr → Bool) (w : World) (x : Tr) : Prop := ∀ (h : 1 < x.l.length) (W : World) (tv : Value), Below w.heap.size w W → TrV F W x.l[1] tv → Calls Tryz.prog 57 #[.agg #[.int .i8 x.l[1].k, .int .i64 x.l[1].n, .string x.l[1].s, .string x.l[1].t, tv]] W fun e w' => e = .returned (.bool (gB x.l[1])) ∧ Below W.heap.size W w'
theorem GuardSays.under {F : Nat → Prop} {gB : Tr → Bool} {w w' : World} {x : Tr} (h : GuardSays F gB w x) (hb : Below w.heap.size w w') : GuardSays F gB w' x := fun hh W tv hW => h hh W tv (hb.trans (hW.mono hb.size))

set_option maxHeartbeats 2000000 in
set_option maxRecDepth 100000 in
theorem sel1_any {F : Nat → Prop} {gB : Tr → Bool} {w : World} {x : Tr} {sv : Value} (hL : Letters w) (hx : TrV F w x sv) (hG : GuardSays F gB w x) :
    Calls Tryz.prog 75 #[.agg #[.int .i8 x.k, .int .i64 x.n, .string x.s, .string x.t, sv]] w fun e w' => e = .returned (.bool (!clB gB x)) ∧ Below w.heap.size w w' := by
  obtain ⟨p, c, rfl⟩ := hx.kids.slice
  have hb := alloc_below w (.cells #[.int .i8 x.k, .int .i64 x.n, .string x.s, .string x.t, .slice p x.l.length c] 25)
  obtain ⟨a0, a1, a2, a3, a4⟩ := node_heap (heap_new w (.cells #[.int .i8 x.k, .int .i64 x.n, .string x.s, .string x.t, .slice p x.l.length c] 25))
  simp only [Nat.zero_add] at a1 a2 a3 a4
  have cC := clause_any (gB := gB) (hL.under hb) (hx.below hb) (hG.under hb)
  clear hL hx hG
  generalize clB gB x = q at cC
  go_enter Tryz.func75, Tryz.ntmps75
  go_wp2_with (go_at_call 76; refine cC.mono ?_; rintro e w6 ⟨rfl, hb6⟩)
  go_ret
  exact ⟨rfl, hb.trans (hb6.mono hb.size)⟩

set_option maxHeartbeats 2000000 in
set_option maxRecDepth 100000 in
theorem sel2_any {F : Nat → Prop} {w : World} {x : It} {sv : Value} (hL : Letters w) (hx : TrV F w x.t sv) :
    Calls Tryz.prog 78 #[.agg #[.int .i8 x.t.k, .int .i64 x.t.n, .string x.t.s, .string x.t.t, sv, .bool x.o]] w fun e w' => e = .returned (.bool (!(chkT x.t == 0))) ∧ Below w.heap.size w w' := by
  obtain ⟨p, c, rfl⟩ := hx.kids.slice
  have hb := alloc_below w (.cells #[.int .i8 x.t.k, .int .i64 x.t.n, .string x.t.s, .string x.t.t, .slice p x.t.l.length c, .bool x.o] 65)
  obtain ⟨⟨a0, a1, a2, a3, a4⟩, a5⟩ := item_heap (heap_new w (.cells #[.int .i8 x.t.k, .int .i64 x.t.n, .string x.t.s, .string x.t.t, .slice p x.t.l.length c, .bool x.o] 65))
  simp only [Nat.zero_add] at a1 a2 a3 a4
  have cC := tcheck_any (hL.under hb) (hx.below hb)
  clear hL hx
  generalize chkT x.t = q at cC
  go_enter Tryz.func78, Tryz.ntmps78
  go_wp2_with (go_at_call 79; refine cC.mono ?_; rintro e w6 ⟨rfl, hb6⟩)
  go_ret
  exact ⟨rfl, hb.trans (hb6.mono hb.size)⟩

set_option maxHeartbeats 4000000 in
set_option maxRecDepth 100000 in
theorem pickC_any {F : Nat → Prop} {P : It → Bool} {l : List It} {w : World} {v : Value} (hl : Items F w v l)
    (hP : ∀ x ∈ l, ∀ (W : World) (sv : Value), Below w.heap.size w W → TrV F W x.t sv → Calls Tryz.prog 78 #[.agg #[.int .i8 x.t.k, .int .i64 x.t.n, .string x.t.s, .string x.t.t, sv, .bool x.o]] W fun e w' => e = .returned (.bool (P x)) ∧ Below W.heap.size W w') :
    Calls Tryz.prog 77 #[v, .func (Fn.func 78) #[] #[]] w fun e w' => e = .returned (pickV (idxB P l)) ∧ Below w.heap.size w w' := by
  obtain ⟨p, c, rfl⟩ := hl.slice
  have hlen : l.length ≤ 2199023255552 := hl.len
  have HF := Lib.hid hP
  have HL := Lib.hid hl
  have HV := Lib.hid (show pickV (idxB P l) = .tuple #[.int .i64 (if 0 ≤ idxB P l then idxB P l else 0), .bool (decide (0 ≤ idxB P l))] from rfl)
  clear hP hl
  go_enter Tryz.func77, Tryz.ntmps77
  go_wp2
  go_loopw [10] (fun i wr => ∃ k : Nat, k ≤ l.length ∧ i = .int .i64 k ∧ (l.take k).all (fun x => !P x) = true ∧ Below w.heap.size w wr) (fun i _ => l.length - (intOf i).toNat)
  case atStart => exact ⟨0, Nat.zero_le _, rfl, rfl, Below.refl _ _⟩
  case round =>
    obtain ⟨k, hk, rfl, hall, hbr⟩ := hrel
    by_cases hlt : k < l.length
    · obtain ⟨g, o, kv, rfl, _, ⟨a0, a1, a2, a3, a4⟩, a5, hkid⟩ := (HL.out.under hbr).at hlt
      obtain ⟨p3, c3, rfl⟩ := hkid.kids.slice
      have hb3 := alloc_below wr (.cells #[.int .i8 l[k].t.k, .int .i64 l[k].t.n, .string l[k].t.s, .string l[k].t.t, .slice p3 l[k].t.l.length c3, .bool l[k].o] 65)
      obtain ⟨⟨b0, b1, b2, b3, b4⟩, b5⟩ := item_heap (heap_new wr (.cells #[.int .i8 l[k].t.k, .int .i64 l[k].t.n, .string l[k].t.s, .string l[k].t.t, .slice p3 l[k].t.l.length c3, .bool l[k].o] 65))
      simp only [Nat.zero_add] at b1 b2 b3 b4
      have hB3 := hbr.trans (hb3.mono hbr.size)
      have cK := HF.out l[k] (List.getElem_mem hlt) _ _ hB3 (hkid.below hb3)
      clear hkid
      cases hq : P l[k]
      · have hnext : (l.take (k + 1)).all (fun x => !P x) = true := by
          rw [List.take_succ_eq_append_getElem hlt, List.all_append, hall]; simp [hq]
        rw [hq] at cK
        have HN := Lib.hid hnext
        clear hnext hall hq
        go_wp2_with (go_at_call 78; refine cK.mono ?_; rintro e w5 ⟨rfl, hb5⟩)
        go_roundw
        case rel => exact ⟨k + 1, hlt, by go_num, HN.out, hB3.trans (hb5.mono hB3.size)⟩
        case measure => simp [intOf]; omega
      · have hfin := idx_here hlt hall hq
        rw [hq] at cK
        have HN : Hid (pickV (idxB P l) = .tuple #[.int .i64 k, .bool true]) := by unfold Hid; rw [HV.out, hfin]; simp
        clear hfin hall hq
        go_wp2_with (go_at_call 78; refine cK.mono ?_; rintro e w5 ⟨rfl, hb5⟩)
        go_ret2
        exact ⟨by rw [HN.out] <;> rfl, hB3.trans (hb5.mono hB3.size)⟩
    · rw [List.take_of_length_le (by omega)] at hall
      have HN : Hid (pickV (idxB P l) = .tuple #[.int .i64 0, .bool false]) := by unfold Hid; rw [HV.out, idx_none hall]; rfl
      clear hall
      go_wp2
      go_ret2
      exact ⟨by rw [HN.out] <;> rfl, hbr⟩

set_option maxHeartbeats 4000000 in
set_option maxRecDepth 100000 in
theorem pickN_any {F : Nat → Prop} {P : Tr → Bool} {l : List Tr} {w : World} {v : Value} (hl : Kids F w v l)
    (hP : ∀ x ∈ l, ∀ (W : World) (sv : Value), Below w.heap.size w W → TrV F W x sv → Calls Tryz.prog 75 #[.agg #[.int .i8 x.k, .int .i64 x.n, .string x.s, .string x.t, sv]] W fun e w' => e = .returned (.bool (P x)) ∧ Below W.heap.size W w') :
    Calls Tryz.prog 74 #[v, .func (Fn.func 75) #[] #[]] w fun e w' => e = .returned (pickV (idxB P l)) ∧ Below w.heap.size w w' := by
  obtain ⟨p, c, rfl⟩ := hl.slice
  have hlen : l.length ≤ 2199023255552 := hl.len
  have HF := Lib.hid hP
  have HL := Lib.hid hl
  have HV := Lib.hid (show pickV (idxB P l) = .tuple #[.int .i64 (if 0 ≤ idxB P l then idxB P l else 0), .bool (decide (0 ≤ idxB P l))] from rfl)
  clear hP hl
  go_enter Tryz.func74, Tryz.ntmps74
  go_wp2
  go_loopw [10] (fun i wr => ∃ k : Nat, k ≤ l.length ∧ i = .int .i64 k ∧ (l.take k).all (fun x => !P x) = true ∧ Below w.heap.size w wr) (fun i _ => l.length - (intOf i).toNat)
  case atStart => exact ⟨0, Nat.zero_le _, rfl, rfl, Below.refl _ _⟩
  case round =>
    obtain ⟨k, hk, rfl, hall, hbr⟩ := hrel
    by_cases hlt : k < l.length
    · obtain ⟨g, o, kv, rfl, _, ⟨a0, a1, a2, a3, a4⟩, hkid⟩ := (HL.out.under hbr).at hlt
      obtain ⟨p3, c3, rfl⟩ := hkid.kids.slice
      have hb3 := alloc_below wr (.cells #[.int .i8 l[k].k, .int .i64 l[k].n, .string l[k].s, .string l[k].t, .slice p3 l[k].l.length c3] 25)
      obtain ⟨b0, b1, b2, b3, b4⟩ := node_heap (heap_new wr (.cells #[.int .i8 l[k].k, .int .i64 l[k].n, .string l[k].s, .string l[k].t, .slice p3 l[k].l.length c3] 25))
      simp only [Nat.zero_add] at b1 b2 b3 b4
      have hB3 := hbr.trans (hb3.mono hbr.size)
      have cK := HF.out l[k] (List.getElem_mem hlt) _ _ hB3 (hkid.below hb3)
      clear hkid
      cases hq : P l[k]
      · have hnext : (l.take (k + 1)).all (fun x => !P x) = true := by
          rw [List.take_succ_eq_append_getElem hlt, List.all_append, hall]; simp [hq]
        rw [hq] at cK
        have HN := Lib.hid hnext
        clear hnext hall hq
        go_wp2_with (go_at_call 75; refine cK.mono ?_; rintro e w5 ⟨rfl, hb5⟩)
        go_roundw
        case rel => exact ⟨k + 1, hlt, by go_num, HN.out, hB3.trans (hb5.mono hB3.size)⟩
        case measure => simp [intOf]; omega
      · have hfin := idx_here hlt hall hq
        rw [hq] at cK
        have HN : Hid (pickV (idxB P l) = .tuple #[.int .i64 k, .bool true]) := by unfold Hid; rw [HV.out, hfin]; simp
        clear hfin hall hq
        go_wp2_with (go_at_call 75; refine cK.mono ?_; rintro e w5 ⟨rfl, hb5⟩)
        go_ret2
        exact ⟨by rw [HN.out] <;> rfl, hB3.trans (hb5.mono hB3.size)⟩
    · rw [List.take_of_length_le (by omega)] at hall
      have HN : Hid (pickV (idxB P l) = .tuple #[.int .i64 0, .bool false]) := by unfold Hid; rw [HV.out, idx_none hall]; rfl
      clear hall
      go_wp2
      go_ret2
      exact ⟨by rw [HN.out] <;> rfl, hbr⟩

end Go.Proofs.YtlhobpknflobgaaGreatDoor
