/-
  guard.Test, guard.Holds. Conditions: the tree lies as 'TrV' says, the names as 'Binds' says.
-/
import Derived.Test.YtlhobpknflobgaaGreatDoorGw4
namespace Go.Proofs.YtlhobpknflobgaaGreatDoor
open Go.RowKit

def testS (x : Tr) (l : List Bd) : Bool := tstC x && (gmayB l && holdS l x)
def hldS (x : Tr) (l : List Bd) : Bool := gdB x && (gmayB l && x.l.all (holdS l))

set_option maxHeartbeats 4000000 in
set_option maxRecDepth 100000 in
theorem gTest_any {F G : Nat → Prop} {x : Tr} {l : List Bd} {w : World} {sv v : Value} (hL : Letters w) (hx : TrV F w x sv) (hl : Binds G w v l) :
    Calls Tryz.prog 17 #[.agg #[.int .i8 x.k, .int .i64 x.n, .string x.s, .string x.t, sv], v] w fun e w' => e = .returned (.bool (testS x l)) ∧ Below w.heap.size w w' := by
  obtain ⟨p, c, rfl⟩ := hx.kids.slice
  obtain ⟨pl, cl, rfl⟩ := hl.slice
  obtain ⟨hb1, hz1, hn1⟩ := node_box w 25 x.k x.n x.s x.t (.slice p x.l.length c)
  have hx1 := (hx.mono (P' := fun _ => True) fun _ _ _ => trivial).below hb1
  have hl1 := (hl.mono (F' := fun _ => True) fun _ _ _ => trivial).under hb1
  have hL1 := hL.under hb1
  clear hx hl hL
  have hn1 : NodeAt (w.alloc (.cells #[.int .i8 x.k, .int .i64 x.n, .string x.s, .string x.t, .slice p x.l.length c] 25)) w.heap.size 0 x (.slice p x.l.length c) := ⟨hn1.k, hn1.n, hn1.s, hn1.t, hn1.l⟩
  go_enter Tryz.func17, Tryz.ntmps17
  go_upto_region 1 with fail
  generalize w.alloc (.cells #[.int .i8 x.k, .int .i64 x.n, .string x.s, .string x.t, .slice p x.l.length c] 25) = w1 at hb1 hz1 hn1 hx1 hl1 hL1 ⊢
  have cT := test_any hL1 hx1
  have cM := fun (W : World) (hb : Below w1.heap.size w1 W) => gmay_any (hL1.under hb) (hl1.under hb)
  have cH := fun (W : World) (hb : Below w1.heap.size w1 W) => holds_any (hL1.under hb) (hn1.keep (hb.block _ hn1.lt)) (hx1.below hb) (hl1.under hb)
  obtain ⟨a0, a1, a2, a3, a4⟩ := hn1
  simp only [Nat.zero_add] at a1 a2 a3 a4
  have HT := Lib.hid (show testS x l = (tstC x && (gmayB l && holdS l x)) from rfl)
  clear hx1 hl1 hL1
  cases ht : tstC x
  · rw [ht] at cT HT
    clear ht cM cH
    go_wp2_with (go_at_call 54; refine cT.mono ?_; rintro e w5 ⟨rfl, hb5⟩)
    go_ret
    exact ⟨by rw [HT.out]; rfl, hb1.trans (hb5.mono hb1.size)⟩
  cases hm : gmayB l
  · rw [ht] at cT HT
    rw [hm] at HT
    have cM : ∀ (W : World), Below w1.heap.size w1 W → Calls Tryz.prog 55 #[.slice pl l.length cl] W fun e w' => e = .returned (.bool false) ∧ Below W.heap.size W w' := fun W hb => by have := cM W hb; rw [hm] at this; exact this
    clear ht hm cH
    go_wp2_with (first
      | (go_at_call 54; refine cT.mono ?_; rintro e w5 ⟨rfl, hb5⟩)
      | (go_at_call 55; refine (cM _ hb5).mono ?_; rintro e w6 ⟨rfl, hb6⟩; have hB6 := hb5.trans (hb6.mono hb5.size)))
    go_ret
    exact ⟨by rw [HT.out]; rfl, hb1.trans (hB6.mono hb1.size)⟩
  have hft : fitsB x = true ∧ tstB x = true := by simpa [tstC] using ht
  have cH := fun (W : World) (hb : Below w1.heap.size w1 W) => cH W hb hft.2 hm (by have := fits_nn hft.1; omega)
  rw [ht] at cT HT
  rw [hm] at HT
  have cM : ∀ (W : World), Below w1.heap.size w1 W → Calls Tryz.prog 55 #[.slice pl l.length cl] W fun e w' => e = .returned (.bool true) ∧ Below W.heap.size W w' := fun W hb => by have := cM W hb; rw [hm] at this; exact this
  clear ht hm hft
  generalize holdS l x = q at cH HT
  go_wp2_with (first
    | (go_at_call 54; refine cT.mono ?_; rintro e w5 ⟨rfl, hb5⟩)
    | (go_at_call 55; refine (cM _ hb5).mono ?_; rintro e w6 ⟨rfl, hb6⟩; have hB6 := hb5.trans (hb6.mono hb5.size))
    | (go_at_call 56; refine (cH _ hB6).mono ?_; rintro e w7 ⟨rfl, hb7⟩; have hB7 := hB6.trans (hb7.mono hB6.size)))
  go_ret
  exact ⟨by rw [HT.out]; simp, hb1.trans (hB7.mono hb1.size)⟩

set_option maxHeartbeats 1000000 in
theorem bholds_any {F : Nat → Prop} {x : Tr} {l : List Bd} {w : World} {g o : Nat} {sv v : Value} (hL : Letters w) (hn : NodeAt w g o x sv) (hx : TrV F w x sv) (hl : Binds F w v l) (ht : tstB x = true) (hm : gmayB l = true) (hnn : x.nn ≤ 1048576) :
    Calls Tryz.prog 58 #[v, .pointer (some ⟨g, o, none⟩)] w fun e w' => e = .returned (.bool (holdS l x)) ∧ Below w.heap.size w w' := by
  have cH := holds_any hL hn hx hl ht hm hnn
  obtain ⟨pl, cl, rfl⟩ := hl.slice
  clear hL hn hx hl
  go_enter Tryz.func58, Tryz.ntmps58
  go_wp2_with (go_at_call 56; refine cH.mono ?_; rintro e w7 ⟨rfl, hb7⟩)
  go_ret
  exact ⟨rfl, hb7⟩

set_option maxHeartbeats 4000000 in
set_option maxRecDepth 100000 in
theorem gHolds_any {F G : Nat → Prop} {x : Tr} {l : List Bd} {w : World} {sv v : Value} (hL : Letters w) (hx : TrV F w x sv) (hl : Binds G w v l) :
    Calls Tryz.prog 18 #[.agg #[.int .i8 x.k, .int .i64 x.n, .string x.s, .string x.t, sv], v] w fun e w' => e = .returned (.bool (hldS x l)) ∧ Below w.heap.size w w' := by
  obtain ⟨p, c, rfl⟩ := hx.kids.slice
  obtain ⟨pl, cl, rfl⟩ := hl.slice
  obtain ⟨hb1, hz1, hn1⟩ := node_box w 25 x.k x.n x.s x.t (.slice p x.l.length c)
  have hx1 := (hx.mono (P' := fun _ => True) fun _ _ _ => trivial).below hb1
  have hl1 := (hl.mono (F' := fun _ => True) fun _ _ _ => trivial).under hb1
  have hL1 := hL.under hb1
  have hlen : x.l.length ≤ 2199023255552 := hx.kids.len
  clear hx hl hL
  have hn1 : NodeAt (w.alloc (.cells #[.int .i8 x.k, .int .i64 x.n, .string x.s, .string x.t, .slice p x.l.length c] 25)) w.heap.size 0 x (.slice p x.l.length c) := ⟨hn1.k, hn1.n, hn1.s, hn1.t, hn1.l⟩
  go_enter Tryz.func18, Tryz.ntmps18
  go_upto_region 1 with fail
  generalize w.alloc (.cells #[.int .i8 x.k, .int .i64 x.n, .string x.s, .string x.t, .slice p x.l.length c] 25) = w1 at hb1 hz1 hn1 hx1 hl1 hL1 ⊢
  have cT := guard_any hL1 hx1
  have cM := fun (W : World) (hb : Below w1.heap.size w1 W) => gmay_any (hL1.under hb) (hl1.under hb)
  have HND := Lib.hid (fun (W : World) (hb : Below w1.heap.size w1 W) => hn1.keep (hb.block _ hn1.lt))
  have HX := Lib.hid hx1
  have HB := Lib.hid hl1
  have HL := Lib.hid hL1
  obtain ⟨a0, a1, a2, a3, a4⟩ := hn1
  simp only [Nat.zero_add] at a1 a2 a3 a4
  have HT := Lib.hid (show hldS x l = (gdB x && (gmayB l && x.l.all (holdS l))) from rfl)
  clear hx1 hl1 hL1
  cases ht : gdB x
  · rw [ht] at cT HT
    clear ht cM
    go_wp2_with (go_at_call 57; refine cT.mono ?_; rintro e w5 ⟨rfl, hb5⟩)
    go_ret
    exact ⟨by rw [HT.out]; rfl, hb1.trans (hb5.mono hb1.size)⟩
  cases hm : gmayB l
  · rw [ht] at cT HT
    rw [hm] at HT
    have cM : ∀ (W : World), Below w1.heap.size w1 W → Calls Tryz.prog 55 #[.slice pl l.length cl] W fun e w' => e = .returned (.bool false) ∧ Below W.heap.size W w' := fun W hb => by have := cM W hb; rw [hm] at this; exact this
    clear ht hm
    go_wp2_with (first
      | (go_at_call 57; refine cT.mono ?_; rintro e w5 ⟨rfl, hb5⟩)
      | (go_at_call 55; refine (cM _ hb5).mono ?_; rintro e w6 ⟨rfl, hb6⟩; have hB6 := hb5.trans (hb6.mono hb5.size)))
    go_ret
    exact ⟨by rw [HT.out]; rfl, hb1.trans (hB6.mono hb1.size)⟩
  have hft : fitsB x = true ∧ x.l.all tstB = true := by
    have h2 := ht
    unfold gdB gdI at h2
    simp only [Bool.and_eq_true] at h2
    exact ⟨h2.1, h2.2.2.2⟩
  have HM := Lib.hid hm
  have HTS := Lib.hid (List.all_eq_true.1 hft.2)
  have HNN := Lib.hid (show ∀ y ∈ x.l, y.nn ≤ 1048576 from fun y hy => by have := fits_nn hft.1; have := nn_kid hy; omega)
  rw [ht] at cT HT
  rw [hm] at HT
  have HT := Lib.hid (HT.out.trans (show _ = x.l.all (holdS l) by simp))
  have cM : ∀ (W : World), Below w1.heap.size w1 W → Calls Tryz.prog 55 #[.slice pl l.length cl] W fun e w' => e = .returned (.bool true) ∧ Below W.heap.size W w' := fun W hb => by have := cM W hb; rw [hm] at this; exact this
  clear ht hm hft
  go_wp2_with (first
    | (go_at_call 57; refine cT.mono ?_; rintro e w5 ⟨rfl, hb5⟩)
    | (go_at_call 55; refine (cM _ hb5).mono ?_; rintro e w6 ⟨rfl, hb6⟩; have hB6 := hb5.trans (hb6.mono hb5.size); have hd6 := HND.out _ hB6; obtain ⟨b0, b1, b2, b3, b4⟩ := hd6; simp only [Nat.zero_add] at b4))
  go_loopw [20] (fun i wr => ∃ k : Nat, k ≤ x.l.length ∧ i = .int .i64 k ∧ (x.l.take k).all (holdS l) = true ∧ Below w1.heap.size w1 wr) (fun i _ => x.l.length - (intOf i).toNat)
  case atStart => exact ⟨0, Nat.zero_le _, rfl, rfl, hB6⟩
  case round =>
    obtain ⟨k, hk, rfl, hall, hbr⟩ := hrel
    obtain ⟨d0, d1, d2, d3, d4⟩ := HND.out _ hbr
    simp only [Nat.zero_add] at d1 d2 d3 d4
    by_cases hlt : k < x.l.length
    · obtain ⟨g1, o1, qv, rfl, _, hnode, hkid⟩ := (HX.out.below hbr).kids.at hlt
      have cH := bholds_any (HL.out.under hbr) hnode hkid (HB.out.under hbr) (HTS.out _ (List.getElem_mem hlt)) HM.out (HNN.out _ (List.getElem_mem hlt))
      have hnx : (x.l.take (k + 1)).all (holdS l) = holdS l x.l[k] := by rw [List.take_succ_eq_append_getElem hlt, List.all_append, hall]; simp
      have hbad : holdS l x.l[k] = false → x.l.all (holdS l) = false := fun h => by
        rw [List.all_eq_false]
        exact ⟨_, List.getElem_mem hlt, by rw [h]; decide⟩
      generalize holdS l x.l[k] = q at cH hnx hbad
      have HNX := Lib.hid hnx
      clear hnode hkid hall hnx
      cases q
      · have HBAD := Lib.hid (hbad rfl)
        clear hbad
        go_wp2_with (go_at_call 58; refine cH.mono ?_; rintro e w7 ⟨rfl, hb7⟩)
        go_ret
        exact ⟨by rw [HT.out, HBAD.out]; rfl, hb1.trans ((hbr.trans (hb7.mono hbr.size)).mono hb1.size)⟩
      · clear hbad
        go_wp2_with (go_at_call 58; refine cH.mono ?_; rintro e w7 ⟨rfl, hb7⟩)
        go_roundw
        case rel => exact ⟨k + 1, hlt, by go_num, HNX.out, hbr.trans (hb7.mono hbr.size)⟩
        case measure => simp [intOf]; omega
    · have HALL := Lib.hid (show x.l.all (holdS l) = true by rw [List.take_of_length_le (by omega)] at hall; exact hall)
      clear hall
      go_wp2_with fail
      go_ret
      exact ⟨by rw [HT.out, HALL.out]; rfl, hb1.trans (hbr.mono hb1.size)⟩
end Go.Proofs.YtlhobpknflobgaaGreatDoor
