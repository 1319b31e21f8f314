/-
  mail.First, pleachref17.First; mail.Without, pleachref17.Without. Conditions: the trees lie as 'TrV' says, the items as 'Items'.
-/
import Derived.Test.YtlhobpknflobgaaGreatDoorMl3
namespace Go.Proofs.YtlhobpknflobgaaGreatDoor
open Go.RowKit

/-- What a search asks. -/
def askB (tag : ByteArray) (t : Tr) (ours : Bool) (x : It) : Bool := (x.o || !ours) && isB x.t tag t

set_option maxHeartbeats 4000000 in
set_option maxRecDepth 100000 in
theorem first1_any {F G : Nat → Prop} {w : World} {x : It} {t : Tr} {sv tv : Value} {tag : ByteArray} {ours : Bool} {bo bs bt : Nat} (hx : TrV F w x.t sv) (ht : TrV G w t tv)
    (h1 : w.cell? ⟨bo, 0, none⟩ = some (.bool ours)) (h2 : w.cell? ⟨bs, 0, none⟩ = some (.string tag)) (h3 : NodeAt w bt 0 t tv) :
    Calls Tryz.prog 86 #[.agg #[.int .i8 x.t.k, .int .i64 x.t.n, .string x.t.s, .string x.t.t, sv, .bool x.o], .pointer (some ⟨bo, 0, none⟩), .pointer (some ⟨bs, 0, none⟩), .pointer (some ⟨bt, 0, none⟩)] w fun e w' => e = .returned (.bool (askB tag t ours x)) ∧ Below w.heap.size w w' := by
  obtain ⟨xt, xo⟩ := x
  dsimp only at hx ⊢
  obtain ⟨p1, c1, rfl⟩ := hx.kids.slice
  obtain ⟨p2, c2, rfl⟩ := ht.kids.slice
  have hb1 := alloc_below w (.cells #[.int .i8 xt.k, .int .i64 xt.n, .string xt.s, .string xt.t, .slice p1 xt.l.length c1, .bool xo] 65)
  obtain ⟨⟨a0, a1, a2, a3, a4⟩, a5⟩ := item_heap (heap_new w (.cells #[.int .i8 xt.k, .int .i64 xt.n, .string xt.s, .string xt.t, .slice p1 xt.l.length c1, .bool xo] 65))
  simp only [Nat.zero_add] at a1 a2 a3 a4
  have f1 := (hb1.cell (p := ⟨bo, 0, none⟩) (cell_block h1)).trans h1
  have f2 := (hb1.cell (p := ⟨bs, 0, none⟩) (cell_block h2)).trans h2
  obtain ⟨b0, b1, b2, b3, b4⟩ := h3.keep (hb1.block _ h3.lt)
  simp only [Nat.zero_add] at b1 b2 b3 b4
  have cI := is17_any (o := xo) (tag := tag) (hx.below hb1) (ht.below hb1)
  have HA := Lib.hid (show askB tag t ours ⟨xt, xo⟩ = ((xo || !ours) && isB xt tag t) from rfl)
  generalize isB xt tag t = ib at cI HA
  clear hx ht h1 h2 h3
  cases xo
  · cases ours
    · have HE : Hid (askB tag t false ⟨xt, false⟩ = ib) := by unfold Hid; rw [HA.out]; rfl
      go_enter Tryz.func86, Tryz.ntmps86
      go_wp2_with (go_at_call 87; refine cI.mono ?_; rintro e w5 ⟨rfl, hb5⟩)
      go_ret
      exact ⟨by rw [HE.out]; rfl, hb1.trans (hb5.mono hb1.size)⟩
    · have HE : Hid (askB tag t true ⟨xt, false⟩ = false) := by unfold Hid; rw [HA.out]; rfl
      go_enter Tryz.func86, Tryz.ntmps86
      go_wp2_with fail
      go_ret
      exact ⟨by rw [HE.out]; rfl, hb1⟩
  · have HE : Hid (askB tag t ours ⟨xt, true⟩ = ib) := by unfold Hid; rw [HA.out]; rfl
    go_enter Tryz.func86, Tryz.ntmps86
    go_wp2_with (go_at_call 87; refine cI.mono ?_; rintro e w5 ⟨rfl, hb5⟩)
    go_ret
    exact ⟨by rw [HE.out]; rfl, hb1.trans (hb5.mono hb1.size)⟩

/-- The first place where something holds, and whether there is one. -/
def pickV (k : Int) : Value := .tuple #[.int .i64 (if 0 ≤ k then k else 0), .bool (decide (0 ≤ k))]

set_option maxHeartbeats 4000000 in
set_option maxRecDepth 100000 in
theorem pickF_any {F : Nat → Prop} {P : It → Bool} {l : List It} {w : World} {v : Value} {bo bs bt : Nat} (hl : Items F w v l)
    (hP : ∀ x ∈ l, ∀ (W : World) (sv : Value), Below w.heap.size w W → TrV F W x.t sv → Calls Tryz.prog 86 #[.agg #[.int .i8 x.t.k, .int .i64 x.t.n, .string x.t.s, .string x.t.t, sv, .bool x.o], .pointer (some ⟨bo, 0, none⟩), .pointer (some ⟨bs, 0, none⟩), .pointer (some ⟨bt, 0, none⟩)] W fun e w' => e = .returned (.bool (P x)) ∧ Below W.heap.size W w') :
    Calls Tryz.prog 77 #[v, .func (Fn.func 86) #[] #[.pointer (some ⟨bo, 0, none⟩), .pointer (some ⟨bs, 0, none⟩), .pointer (some ⟨bt, 0, none⟩)]] w fun e w' => e = .returned (pickV (idxB P l)) ∧ Below w.heap.size w w' := by
  obtain ⟨p, c, rfl⟩ := hl.slice
  have hlen : l.length ≤ 2199023255552 := hl.len
  have HF := Lib.hid hP
  have HL := Lib.hid hl
  have HV := Lib.hid (show pickV (idxB P l) = .tuple #[.int .i64 (if 0 ≤ idxB P l then idxB P l else 0), .bool (decide (0 ≤ idxB P l))] from rfl)
  clear hP hl
  go_enter Tryz.func77, Tryz.ntmps77
  go_wp2
  go_loopw [10] (fun i wr => ∃ k : Nat, k ≤ l.length ∧ i = .int .i64 k ∧ (l.take k).all (fun x => !P x) = true ∧ Below w.heap.size w wr) (fun i _ => l.length - (intOf i).toNat)
  case atStart => exact ⟨0, Nat.zero_le _, rfl, rfl, Below.refl _ _⟩
  case round =>
    obtain ⟨k, hk, rfl, hall, hbr⟩ := hrel
    by_cases hlt : k < l.length
    · obtain ⟨g, o, kv, rfl, _, ⟨a0, a1, a2, a3, a4⟩, a5, hkid⟩ := (HL.out.under hbr).at hlt
      obtain ⟨p3, c3, rfl⟩ := hkid.kids.slice
      have hb3 := alloc_below wr (.cells #[.int .i8 l[k].t.k, .int .i64 l[k].t.n, .string l[k].t.s, .string l[k].t.t, .slice p3 l[k].t.l.length c3, .bool l[k].o] 65)
      obtain ⟨⟨b0, b1, b2, b3, b4⟩, b5⟩ := item_heap (heap_new wr (.cells #[.int .i8 l[k].t.k, .int .i64 l[k].t.n, .string l[k].t.s, .string l[k].t.t, .slice p3 l[k].t.l.length c3, .bool l[k].o] 65))
      simp only [Nat.zero_add] at b1 b2 b3 b4
      have hB3 := hbr.trans (hb3.mono hbr.size)
      have cK := HF.out l[k] (List.getElem_mem hlt) _ _ hB3 (hkid.below hb3)
      clear hkid
      cases hq : P l[k]
      · have hnext : (l.take (k + 1)).all (fun x => !P x) = true := by
          rw [List.take_succ_eq_append_getElem hlt, List.all_append, hall]; simp [hq]
        rw [hq] at cK
        have HN := Lib.hid hnext
        clear hnext hall hq
        go_wp2_with (go_at_call 86; refine cK.mono ?_; rintro e w5 ⟨rfl, hb5⟩)
        go_roundw
        case rel => exact ⟨k + 1, hlt, by go_num, HN.out, hB3.trans (hb5.mono hB3.size)⟩
        case measure => simp [intOf]; omega
      · have hfin := idx_here hlt hall hq
        rw [hq] at cK
        have HN : Hid (pickV (idxB P l) = .tuple #[.int .i64 k, .bool true]) := by unfold Hid; rw [HV.out, hfin]; simp
        clear hfin hall hq
        go_wp2_with (go_at_call 86; refine cK.mono ?_; rintro e w5 ⟨rfl, hb5⟩)
        go_ret2
        exact ⟨by rw [HN.out] <;> rfl, hB3.trans (hb5.mono hB3.size)⟩
    · rw [List.take_of_length_le (by omega)] at hall
      have HN : Hid (pickV (idxB P l) = .tuple #[.int .i64 0, .bool false]) := by unfold Hid; rw [HV.out, idx_none hall]; rfl
      clear hall
      go_wp2
      go_ret2
      exact ⟨by rw [HN.out] <;> rfl, hbr⟩

set_option maxHeartbeats 2000000 in
set_option maxRecDepth 100000 in
theorem first17_any {F G : Nat → Prop} {w : World} {l : List It} {t : Tr} {v tv : Value} {tag : ByteArray} {ours : Bool} (hl : Items F w v l) (ht : TrV G w t tv) :
    Calls Tryz.prog 40 #[v, .string tag, .agg #[.int .i8 t.k, .int .i64 t.n, .string t.s, .string t.t, tv], .bool ours] w fun e w' => e = .returned (pickV (idxB (askB tag t ours) l)) ∧ Below w.heap.size w w' := by
  generalize hk : idxB (askB tag t ours) l = kk
  unfold pickV
  have HK := Lib.hid hk
  clear hk
  obtain ⟨p, c, rfl⟩ := hl.slice
  obtain ⟨p2, c2, rfl⟩ := ht.kids.slice
  obtain ⟨n1, n2, n3, hb, hs⟩ := three_new w (.cells #[.string tag] 9) (.cells #[.int .i8 t.k, .int .i64 t.n, .string t.s, .string t.t, .slice p2 t.l.length c2] 29) (.cells #[.bool ours] 4)
  have hl1 := hl.under hb
  have ht1 := ht.below hb
  have m1 := one_cell n1
  have m2 := node_heap n2
  have m3 := one_cell n3
  go_enter Tryz.func40, Tryz.ntmps40
  go_upto_region 1 with fail
  generalize ((w.alloc (.cells #[.string tag] 9)).alloc (.cells #[.int .i8 t.k, .int .i64 t.n, .string t.s, .string t.t, .slice p2 t.l.length c2] 29)).alloc (.cells #[.bool ours] 4) = w1 at hb hs hl1 ht1 m1 m2 m3 ⊢
  have cP := pickF_any (P := askB tag t ours) (bo := w.heap.size + 1 + 1) (bs := w.heap.size) (bt := w.heap.size + 1) hl1 (fun x _ W sv hbW hx => first1_any hx (ht1.below hbW) ((hbW.cell (p := ⟨_, 0, none⟩) (cell_block m3)).trans m3) ((hbW.cell (p := ⟨_, 0, none⟩) (cell_block m1)).trans m1) (m2.keep (hbW.block _ m2.lt)))
  clear hl ht n1 n2 n3 hl1 ht1 m1 m2 m3 hs
  rw [HK.out] at cP
  unfold pickV at cP
  go_wp2_with (go_at_call 77; refine cP.mono ?_; rintro e w5 ⟨rfl, hb5⟩)
  all_goals
    go_ret2
    exact ⟨rfl, hb.trans (hb5.mono hb.size)⟩
end Go.Proofs.YtlhobpknflobgaaGreatDoor
