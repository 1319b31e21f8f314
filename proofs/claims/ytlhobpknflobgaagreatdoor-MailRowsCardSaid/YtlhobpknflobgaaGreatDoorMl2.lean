/-
  mail.is, pleachref17.is, pleachref03.IsAtom; pleachlaw17.Great. Conditions: the trees lie as 'TrV' says, the items as 'Items'.
-/
import Derived.Test.YtlhobpknflobgaaGreatDoorMl1
namespace Go.Proofs.YtlhobpknflobgaaGreatDoor
open Go.RowKit

set_option maxHeartbeats 2000000 in
set_option maxRecDepth 100000 in
theorem great17_any {F : Nat → Prop} {w : World} {v : Value} {l : List It} (hl : Items F w v l) :
    Calls Tryz.prog 30 #[v] w fun e w' => e = .returned (.bool (decide (200 < l.length) || l.any fun b => decide (1024 ≤ b.t.sz 1024))) ∧ Below w.heap.size w w' := by
  have hlen : l.length ≤ 2199023255552 := hl.len
  obtain ⟨p, c, rfl⟩ := hl.slice
  have HL := Lib.hid hl
  have HM := Lib.hid (show (decide (200 < l.length) || l.any fun b => decide (1024 ≤ b.t.sz 1024)) = (decide (200 < l.length) || l.any fun b => decide (1024 ≤ b.t.sz 1024)) from rfl)
  clear hl
  generalize hg : (decide (200 < l.length) || l.any fun b => decide (1024 ≤ b.t.sz 1024)) = gr at HM ⊢
  have HG := Lib.hid hg
  clear hg HM
  by_cases h : (200 : Int) < l.length
  · go_enter Tryz.func30, Tryz.ntmps30
    go_wp2_with fail
    go_ret
    exact ⟨by rw [← HG.out, decide_eq_true (by omega)]; rfl, Below.refl _ _⟩
  have HM2 : Hid (gr = l.any fun b => decide (1024 ≤ b.t.sz 1024)) := by unfold Hid; rw [← HG.out, decide_eq_false (by omega)]; rfl
  clear HG
  go_enter Tryz.func30, Tryz.ntmps30
  go_wp2_with fail
  go_loopw [3] (fun i wr => ∃ k : Nat, k ≤ l.length ∧ i = .int .i64 k ∧ (l.take k).any (fun b => decide (1024 ≤ b.t.sz 1024)) = false ∧ Below w.heap.size w wr) (fun i _ => l.length - (intOf i).toNat)
  case atStart => exact ⟨0, Nat.zero_le _, rfl, rfl, Below.refl _ _⟩
  case round =>
    obtain ⟨k, hk, rfl, hall, hbr⟩ := hrel
    by_cases hlt : k < l.length
    · obtain ⟨g, o, kv, rfl, _, ⟨a0, a1, a2, a3, a4⟩, hs0, hkid⟩ := (HL.out.under hbr).at hlt
      have cG := greatT_any hkid
      have hstop : decide (1024 ≤ l[k].t.sz 1024) = true → Hid (gr = true) := fun h => by
        unfold Hid; rw [HM2.out]; exact any_at (P := fun b : It => decide (1024 ≤ b.t.sz 1024)) hlt h
      have hnext : decide (1024 ≤ l[k].t.sz 1024) = false → Hid ((l.take (k + 1)).any (fun b => decide (1024 ≤ b.t.sz 1024)) = false) := fun h => any_take (P := fun b : It => decide (1024 ≤ b.t.sz 1024)) hlt hall h
      obtain ⟨p3, c3, rfl⟩ := hkid.kids.slice
      clear hall hkid
      generalize decide (1024 ≤ l[k].t.sz 1024) = q at cG hstop hnext
      cases q
      · have HN := hnext rfl
        clear hstop hnext
        go_wp2_with (go_at_call 37; refine cG.mono ?_; rintro e w5 ⟨rfl, hb5⟩)
        go_roundw
        case rel => exact ⟨k + 1, hlt, by go_num, HN.out, hbr.trans (hb5.mono hbr.size)⟩
        case measure => simp [intOf]; omega
      · have HS := hstop rfl
        clear hstop hnext
        go_wp2_with (go_at_call 37; refine cG.mono ?_; rintro e w5 ⟨rfl, hb5⟩)
        go_ret
        exact ⟨by rw [HS.out]; rfl, hbr.trans (hb5.mono hbr.size)⟩
    · rw [List.take_of_length_le (by omega)] at hall
      have HN : Hid (gr = false) := by unfold Hid; rw [HM2.out, hall]
      clear hall
      go_wp2
      go_ret
      exact ⟨by rw [HN.out]; rfl, hbr⟩

set_option maxHeartbeats 1000000 in
set_option maxRecDepth 100000 in
theorem isAtom_any (w : World) (x : Tr) (sv : Value) (s : ByteArray) :
    Calls Tryz.prog 132 #[.agg #[.int .i8 x.k, .int .i64 x.n, .string x.s, .string x.t, sv], .string s] w fun e w' => e = .returned (.bool (x.k == 1 && x.s.toList == s.toList)) ∧ Below w.heap.size w w' := by
  have hb1 := alloc_below w (.cells #[.int .i8 x.k, .int .i64 x.n, .string x.s, .string x.t, sv] 29)
  obtain ⟨a0, a1, a2, a3, a4⟩ := node_heap (heap_new w (.cells #[.int .i8 x.k, .int .i64 x.n, .string x.s, .string x.t, sv] 29))
  simp only [Nat.zero_add] at a1 a2 a3 a4
  cases e0 : (x.k == 1)
  all_goals
    go_enter Tryz.func132, Tryz.ntmps132
    go_wp2
    go_ret
    exact ⟨by simp, hb1⟩

/-- Is a term a tuple whose first part is that atom, its second one that term? -/
def isB (x : Tr) (tag : ByteArray) (t : Tr) : Bool := x.k == 5 && (decide (2 ≤ (x.l.length : Int)) && (((x.l.getD 0 zeroT).k == 1 && (x.l.getD 0 zeroT).s.toList == tag.toList) && (x.l.getD 1 zeroT).same t))
/-- An item's six cells, and what lies behind its parts. -/
theorem item_heap {w : World} {b : Nat} {x : Tr} {sv : Value} {o : Bool} {T : TypeId} (h : w.heap[b]? = some (.cells #[.int .i8 x.k, .int .i64 x.n, .string x.s, .string x.t, sv, .bool o] T (0, 0))) : NodeAt w b 0 x sv ∧ w.cell? ⟨b, 5, none⟩ = some (.bool o) := by
  have f : ∀ i, w.cell? ⟨b, i, none⟩ = (#[.int .i8 x.k, .int .i64 x.n, .string x.s, .string x.t, sv, .bool o] : Array Value)[i]? := fun i => arr_cell h
  exact ⟨⟨f 0, f 1, f 2, f 3, f 4⟩, f 5⟩

set_option maxHeartbeats 4000000 in
set_option maxRecDepth 100000 in
theorem is17_any {F G : Nat → Prop} {w : World} {x t : Tr} {sv tv : Value} {o : Bool} {tag : ByteArray} (hx : TrV F w x sv) (ht : TrV G w t tv) :
    Calls Tryz.prog 87 #[.agg #[.int .i8 x.k, .int .i64 x.n, .string x.s, .string x.t, sv, .bool o], .string tag, .agg #[.int .i8 t.k, .int .i64 t.n, .string t.s, .string t.t, tv]] w fun e w' => e = .returned (.bool (isB x tag t)) ∧ Below w.heap.size w w' := by
  obtain ⟨p1, c1, rfl⟩ := hx.kids.slice
  obtain ⟨p2, c2, rfl⟩ := ht.kids.slice
  obtain ⟨n1, n2, hb1, hz1⟩ := two_new w (.cells #[.int .i8 x.k, .int .i64 x.n, .string x.s, .string x.t, .slice p1 x.l.length c1, .bool o] 65) (.cells #[.int .i8 t.k, .int .i64 t.n, .string t.s, .string t.t, .slice p2 t.l.length c2] 29)
  obtain ⟨⟨a0, a1, a2, a3, a4⟩, a5⟩ := item_heap n1
  obtain ⟨b0, b1, b2, b3, b4⟩ := node_heap n2
  simp only [Nat.zero_add] at a1 a2 a3 a4 b1 b2 b3 b4
  have hx1 := hx.below hb1
  have ht1 := ht.below hb1
  have hlen : x.l.length ≤ 2199023255552 := hx.kids.len
  have hI : isB x tag t = (x.k == 5 && (decide (2 ≤ (x.l.length : Int)) && (((x.l.getD 0 zeroT).k == 1 && (x.l.getD 0 zeroT).s.toList == tag.toList) && (x.l.getD 1 zeroT).same t))) := rfl
  have HI := Lib.hid hI
  clear hx ht n1 n2 hI
  go_enter Tryz.func87, Tryz.ntmps87
  go_upto_region 2 with fail
  generalize (w.alloc (.cells #[.int .i8 x.k, .int .i64 x.n, .string x.s, .string x.t, .slice p1 x.l.length c1, .bool o] 65)).alloc (.cells #[.int .i8 t.k, .int .i64 t.n, .string t.s, .string t.t, .slice p2 t.l.length c2] 29) = w1 at hb1 hz1 a0 a1 a2 a3 a4 a5 b0 b1 b2 b3 b4 hx1 ht1 ⊢
  cases e0 : (x.k == 5)
  · have HE : Hid (isB x tag t = false) := by unfold Hid; rw [HI.out, e0]; rfl
    go_quiet (fail)
    go_wp2_with fail
    go_ret
    exact ⟨by rw [HE.out]; rfl, below_drewN hb1 _⟩
  cases e1 : decide (2 ≤ (x.l.length : Int))
  · have HE : Hid (isB x tag t = false) := by unfold Hid; rw [HI.out, e0, e1]; rfl
    go_quiet (fail)
    go_wp2_with fail
    go_ret
    exact ⟨by rw [HE.out]; rfl, below_drewN hb1 _⟩
  have hl2 : 2 ≤ x.l.length := by have := of_decide_eq_true e1; omega
  obtain ⟨g, q, kv0, rfl, _, hn0, hk0⟩ := hx1.kids.at (show 0 < x.l.length by omega)
  obtain ⟨g', q', kv1, hp', _, hn1, hk1⟩ := hx1.kids.at (show 1 < x.l.length by omega)
  cases hp'
  have hg0 : x.l.getD 0 zeroT = x.l[0] := by simp [show 0 < x.l.length by omega]
  have hg1 : x.l.getD 1 zeroT = x.l[1] := by simp [show 1 < x.l.length by omega]
  obtain ⟨c0, c1', c2', c3, c4⟩ := hn0
  obtain ⟨d0, d1, d2, d3, d4⟩ := hn1
  simp only [Nat.zero_mul, Nat.one_mul, Nat.add_zero] at c0 c1' c2' c3 c4 d0 d1 d2 d3 d4
  obtain ⟨p4, c4', rfl⟩ := hk1.kids.slice
  have h0l : (0 : Int) < x.l.length := by omega
  have h1l : (1 : Int) < x.l.length := by omega
  cases e2 : ((x.l[0]'(by omega)).k == 1)
  · have HE : Hid (isB x tag t = false) := by unfold Hid; rw [HI.out, e0, e1, hg0, e2]; rfl
    clear hg0 hg1
    go_quiet (fail)
    go_wp2_with fail
    go_ret
    exact ⟨by rw [HE.out]; rfl, below_drewN hb1 _⟩
  cases e3 : ((x.l[0]'(by omega)).s.toList == tag.toList)
  · have HE : Hid (isB x tag t = false) := by unfold Hid; rw [HI.out, e0, e1, hg0, e2, e3]; rfl
    clear hg0 hg1
    go_quiet (fail)
    go_wp2_with fail
    go_ret
    exact ⟨by rw [HE.out]; rfl, below_drewN hb1 _⟩
  have HE : Hid (isB x tag t = (x.l[1]'(by omega)).same t) := by unfold Hid; rw [HI.out, e0, e1, hg0, e2, e3, hg1]; rfl
  have hbd : Below w1.heap.size w1 (w1.drewN 1) := below_drewN (Below.refl _ _) 1
  have cS := same17_any (x.l[1]'(by omega)) t (w1.drewN 1) _ _ (hk1.below hbd) (ht1.below hbd)
  clear hg0 hg1 hk0 hk1
  have k0 : 0 < x.l.length := by omega
  have k1 : 1 < x.l.length := by omega
  have k2 : ¬ x.l = [] := by intro h; rw [h] at k0; simp at k0
  go_still_tail 29, (by kernel_rfl)
  change wpList _ _ _ _ _ (w1.drewN 1)
  generalize w1.drewN 1 = w4 at hbd cS ⊢
  go_wp2_with (go_at_call 90; refine cS.mono ?_; rintro e w5 ⟨rfl, hb5⟩)
  go_ret
  exact ⟨by rw [HE.out]; rfl, hb1.trans ((hbd.trans (hb5.mono hbd.size)).mono hb1.size)⟩
end Go.Proofs.YtlhobpknflobgaaGreatDoor
