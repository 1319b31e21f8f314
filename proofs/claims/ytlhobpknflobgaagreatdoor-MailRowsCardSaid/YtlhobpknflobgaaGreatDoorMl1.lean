/-
  mail.same, pleachlaw17.Great, mail.Users, pleachref17.Users. Conditions: the trees lie as 'TrV' says, the items as 'Items'.
-/
import Derived.Test.YtlhobpknflobgaaGreatDoorIt1
import Derived.Test.YtlhobpknflobgaaGreatDoorS20
import Derived.BigQuiet
namespace Go.Proofs.YtlhobpknflobgaaGreatDoor
open Go.RowKit

/-- What is known of two trees, their first k parts looked at. -/
def SmSt (x y : Tr) (k : Nat) (ok : Bool) : Prop := (ok = true → x.same y = Tr.same.samel (x.l.drop k) (y.l.drop k) ∧ x.l.length = y.l.length) ∧ (ok = false → x.same y = false)

set_option maxHeartbeats 4000000 in
set_option maxRecDepth 100000 in
theorem same17_any {F G : Nat → Prop} (x : Tr) : ∀ (y : Tr) (w : World) (sv tv : Value), TrV F w x sv → TrV G w y tv →
    Calls Tryz.prog 90 #[.agg #[.int .i8 x.k, .int .i64 x.n, .string x.s, .string x.t, sv], .agg #[.int .i8 y.k, .int .i64 y.n, .string y.s, .string y.t, tv]] w fun e w' => e = .returned (.bool (x.same y)) ∧ Below w.heap.size w w' := by
  induction x using Tr.ind with
  | h x ih =>
    intro y w sv tv hx hy
    obtain ⟨p, c, rfl⟩ := hx.kids.slice
    obtain ⟨p2, c2, rfl⟩ := hy.kids.slice
    obtain ⟨n1, n2, hb1, hz1⟩ := two_new w (.cells #[.int .i8 x.k, .int .i64 x.n, .string x.s, .string x.t, .slice p x.l.length c] 29) (.cells #[.int .i8 y.k, .int .i64 y.n, .string y.s, .string y.t, .slice p2 y.l.length c2] 29)
    have hx1 := hx.below hb1
    have hy1 := hy.below hb1
    have hlen : x.l.length ≤ 2199023255552 := hx.kids.len
    have hlen2 : y.l.length ≤ 2199023255552 := hy.kids.len
    obtain ⟨a0, a1, a2, a3, a4⟩ := node_heap n1
    obtain ⟨b0, b1, b2, b3, b4⟩ := node_heap n2
    simp only [Nat.zero_add] at a1 a2 a3 a4 b1 b2 b3 b4
    have hrel0 := same_eq x y
    have IH := Lib.hid ih
    have HR := Lib.hid hrel0
    have HX1 := Lib.hid hx1
    have HY1 := Lib.hid hy1
    clear ih hrel0 hx hy n1 n2 hx1 hy1
    go_enter Tryz.func90, Tryz.ntmps90
    go_upto_region 1 with fail
    generalize (w.alloc (.cells #[.int .i8 x.k, .int .i64 x.n, .string x.s, .string x.t, .slice p x.l.length c] 29)).alloc (.cells #[.int .i8 y.k, .int .i64 y.n, .string y.s, .string y.t, .slice p2 y.l.length c2] 29) = w1 at hb1 hz1 HX1 HY1 a0 a1 a2 a3 a4 b0 b1 b2 b3 b4 ⊢
    have HZ := Lib.hid hz1
    clear hz1
    have hfalse : x.same y = false → SmSt x y 0 false := fun h => ⟨fun h => by simp at h, fun _ => h⟩
    cases e0 : (x.k == y.k)
    case' false =>
      have HST := Lib.hid (hfalse (by rw [HR.out, e0]; rfl))
      go_wp2_with fail
      clear e0
    case' true =>
      cases e1 : (x.n == y.n)
    case' true.false =>
      have HST := Lib.hid (hfalse (by rw [HR.out, e0, e1]; rfl))
      go_wp2_with fail
      clear e0 e1
    case' true.true =>
      cases e2 : (x.s.toList == y.s.toList)
    case' true.true.false =>
      have HST := Lib.hid (hfalse (by rw [HR.out, e0, e1, e2]; rfl))
      go_wp2_with fail
      clear e0 e1 e2
    case' true.true.true =>
      cases e3 : (x.t.toList == y.t.toList)
    case' true.true.true.false =>
      have HST := Lib.hid (hfalse (by rw [HR.out, e0, e1, e2, e3]; rfl))
      go_wp2_with fail
      clear e0 e1 e2 e3
    case' true.true.true.true =>
      cases e4 : ((x.l.length : Int) == (y.l.length : Int))
    case' true.true.true.true.false =>
      have HST := Lib.hid (hfalse (by rw [HR.out, e0, e1, e2, e3, e4]; rfl))
      go_wp2_with fail
      clear e0 e1 e2 e3 e4
    case' true.true.true.true.true =>
      have HST : Hid (SmSt x y 0 true) := ⟨fun _ => ⟨by rw [HR.out, e0, e1, e2, e3, e4]; rfl, by have := beq_iff_eq.1 e4; omega⟩, fun h => by simp at h⟩
      go_wp2_with fail
      clear e0 e1 e2 e3 e4
    all_goals
      clear a0 a1 a2 a3 b0 b1 b2 b3 hfalse
      go_loopw [5, 45] (fun okv i wr => ∃ k : Nat, k ≤ x.l.length ∧ i = .int .i64 k ∧ (∃ ok : Bool, okv = .bool ok ∧ SmSt x y k ok) ∧ Below w1.heap.size w1 wr) (fun _ i _ => x.l.length - (intOf i).toNat)
      case atStart => exact ⟨0, Nat.zero_le _, rfl, ⟨_, rfl, HST.out⟩, Below.refl _ _⟩
      case round =>
        obtain ⟨k, hk, rfl, ⟨ok, rfl, hst⟩, hbr⟩ := hrel
        have hbw := hb1.trans (hbr.mono hb1.size)
        have a4r := (hbr.cell (p := ⟨w.heap.size, 4, none⟩) (by show w.heap.size < _; have := HZ.out; omega)).trans a4
        have b4r := (hbr.cell (p := ⟨w.heap.size + 1, 4, none⟩) (by show w.heap.size + 1 < _; have := HZ.out; omega)).trans b4
        have HST2 := Lib.hid hst
        clear hst
        by_cases hlt : k < x.l.length
        · cases ok
          · have HN : Hid (SmSt x y (k + 1) false) := ⟨fun h => by simp at h, HST2.out.2⟩
            go_upto_region 5 with fail
            go_quiet (fail)
            go_wp2_with fail
            go_roundw
            case rel => exact ⟨k + 1, hlt, by go_num, ⟨_, rfl, HN.out⟩, below_drewN hbr _⟩
            case measure => simp [intOf]; omega
          · obtain ⟨hs1, hll⟩ := HST2.out.1 rfl
            have hlt2 : k < y.l.length := by omega
            obtain ⟨g, o, kv, rfl, _, hnode, hkid⟩ := (HX1.out.kids.under hbr).at hlt
            obtain ⟨g2, o2, kv2, rfl, _, hnode2, hkid2⟩ := (HY1.out.kids.under hbr).at hlt2
            have hbd : Below wr.heap.size wr (wr.drewN 1) := below_drewN (Below.refl _ _) 1
            have cK := IH.out x.l[k] (List.getElem_mem hlt) y.l[k] (wr.drewN 1) kv kv2 (hkid.below hbd) (hkid2.below hbd)
            rw [samel_take hlt hlt2] at hs1
            obtain ⟨c0, c1, c2', c3, c4⟩ := hnode
            obtain ⟨d0, d1, d2, d3, d4⟩ := hnode2
            have HN : Hid (SmSt x y (k + 1) (x.l[k].same y.l[k])) := ⟨fun h => ⟨by rw [hs1, h]; rfl, hll⟩, fun h => by rw [hs1, h]; rfl⟩
            clear hs1 hkid hkid2 hll
            generalize x.l[k].same y.l[k] = q at cK HN
            go_upto_region 5 with fail
            go_still_tail 12, (by kernel_rfl)
            change wpList _ _ _ _ _ (wr.drewN 1)
            generalize wr.drewN 1 = w4 at hbd cK ⊢
            go_wp2_with (go_at_call 90; refine cK.mono ?_; rintro e w5 ⟨rfl, hb5⟩)
            go_roundw
            case rel => exact ⟨k + 1, hlt, by go_num, ⟨_, rfl, HN.out⟩, hbr.trans ((hbd.trans (hb5.mono hbd.size)).mono hbr.size)⟩
            case measure => simp [intOf]; omega
        · have HE : Hid (x.same y = ok) := by
            unfold Hid
            cases ok
            · exact HST2.out.2 rfl
            · obtain ⟨h1, h2⟩ := HST2.out.1 rfl
              rw [h1, List.drop_eq_nil_of_le (by omega)]; rfl
          go_wp2
          go_ret
          exact ⟨by rw [HE.out]; rfl, hbw⟩
end Go.Proofs.YtlhobpknflobgaaGreatDoor
