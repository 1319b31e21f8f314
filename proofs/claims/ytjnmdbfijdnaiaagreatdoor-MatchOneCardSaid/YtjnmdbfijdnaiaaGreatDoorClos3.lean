/-
  term.Check; pleachref03.Same. Conditions: the terms lie as 'TrV' says.
-/
import Derived.Test.YtjnmdbfijdnaiaaGreatDoorClos2
import Derived.Deep.RegionHeld3
namespace Go.Proofs.YtjnmdbfijdnaiaaGreatDoor
open Go.RowKit

set_option maxHeartbeats 2000000 in
set_option maxRecDepth 100000 in
theorem tcheck_any {F : Nat → Prop} {x : Tr} {w : World} {sv : Value} (hL : Letters w) (hx : TrV F w x sv) :
    Calls Tryz.prog 29 #[.agg #[.int .i8 x.k, .int .i64 x.n, .string x.s, .string x.t, sv]] w fun e w' => e = .returned (.int .i64 (chkT x)) ∧ Below w.heap.size w w' := by
  obtain ⟨p, c, rfl⟩ := hx.kids.slice
  have hx0 : TrV (fun k => k < w.heap.size) w x (.slice p x.l.length c) := ⟨hx.wf, hx.kids.mono fun _ _ h => h⟩
  have hl0 := hL.lt
  clear hx
  go_enter Tryz.func29, Tryz.ntmps29
  go_wp2_with fail
  obtain ⟨n1, n2, n3, n4, hb, hs⟩ := four_new w (.cells #[.int .i8 x.k, .int .i64 x.n, .string x.s, .string x.t, .slice p x.l.length c] 28) (.cells #[.int .i64 0] 3) (.cells #[.bool true] 4) (.cells #[.func (Fn.func 50) #[] #[.pointer (some ⟨w.heap.size + 1, 0, none⟩), .pointer (some ⟨w.heap.size + 1 + 1, 0, none⟩), .pointer (some ⟨w.heap.size + 1 + 1 + 1, 0, none⟩)]] 71)
  generalize (((w.alloc (.cells #[.int .i8 x.k, .int .i64 x.n, .string x.s, .string x.t, .slice p x.l.length c] 28)).alloc (.cells #[.int .i64 0] 3)).alloc (.cells #[.bool true] 4)).alloc (.cells #[.func (Fn.func 50) #[] #[.pointer (some ⟨w.heap.size + 1, 0, none⟩), .pointer (some ⟨w.heap.size + 1 + 1, 0, none⟩), .pointer (some ⟨w.heap.size + 1 + 1 + 1, 0, none⟩)]] 71) = w3 at n1 n2 n3 n4 hb hs ⊢
  refine (checkC_any (F := fun k => k < w.heap.size) (bn := w.heap.size + 1) (bo := w.heap.size + 1 + 1) (bw := w.heap.size + 1 + 1 + 1) (fun k hk => by omega) (by omega) (by omega) (by omega) x w3 w.heap.size 0 _ 0 (hL.under hb) (node_heap n1) (by omega) (hx0.below hb) n2 n3 (one_cell n4) (by omega) (by omega)).mono ?_
  rintro e w5 ⟨rfl, ⟨n', hn5, hq5⟩, ho5, ht5⟩
  rw [show (257 : Int) - 0 = 257 from rfl] at hq5 ho5
  have hc5 := one_cell hn5
  have hc6 := one_cell ho5
  have hB := hb.trans (ht5.below (B := w.heap.size) (by omega) fun k hk e => by omega)
  clear hn5 ho5 n1 n2 n3 n4 hb hs ht5 hL hx0
  have hchk : chkT x = if (x.cnt 257).2 then (if 256 < n' then 11 else 0) else 30 := by
    unfold chkT
    cases hq : (x.cnt 257).2
    · rfl
    · have := hq5 hq
      rw [if_pos rfl, if_pos rfl, show (x.cnt 257).1 = n' by omega]
  have HC := Lib.hid hchk
  clear hq5 hchk
  generalize (x.cnt 257).2 = qb at hc6 HC
  cases qb
  · go_wp2
    go_ret
    exact ⟨by rw [HC.out]; rfl, hB⟩
  · by_cases h : 256 < n'
    · have HC2 : Hid (chkT x = 11) := by unfold Hid; rw [HC.out, if_pos rfl, if_pos h]
      go_wp2
      go_ret
      exact ⟨by rw [HC2.out]; rfl, hB⟩
    · have HC2 : Hid (chkT x = 0) := by unfold Hid; rw [HC.out, if_pos rfl, if_neg h]
      go_wp2
      go_ret
      exact ⟨by rw [HC2.out]; rfl, hB⟩

/-- Are two trees the same? -/
def Tr.same : Tr → Tr → Bool
  | .mk k n s t l, y => k == y.k && (n == y.n && (s.toList == y.s.toList && (t.toList == y.t.toList && ((l.length : Int) == (y.l.length : Int) && samel l y.l))))
where samel : List Tr → List Tr → Bool
  | x :: r, y :: q => x.same y && samel r q
  | _, _ => true
theorem same_eq (x y : Tr) : x.same y = (x.k == y.k && (x.n == y.n && (x.s.toList == y.s.toList && (x.t.toList == y.t.toList && ((x.l.length : Int) == (y.l.length : Int) && Tr.same.samel x.l y.l))))) := by cases x; rfl
theorem samel_take {l m : List Tr} {k : Nat} (h1 : k < l.length) (h2 : k < m.length) : Tr.same.samel (l.drop k) (m.drop k) = (l[k].same m[k] && Tr.same.samel (l.drop (k + 1)) (m.drop (k + 1))) := by
  rw [List.drop_eq_getElem_cons h1, List.drop_eq_getElem_cons h2, Tr.same.samel]
theorem two_new (w : World) (o1 o2 : Obj) : ((w.alloc o1).alloc o2).heap[w.heap.size]? = some o1 ∧ ((w.alloc o1).alloc o2).heap[w.heap.size + 1]? = some o2 ∧ Below w.heap.size w ((w.alloc o1).alloc o2) ∧ ((w.alloc o1).alloc o2).heap.size = w.heap.size + 2 := by
  have e1 : (w.alloc o1).heap.size = w.heap.size + 1 := by simp
  refine ⟨?_, ?_, ((Below.refl _ _).alloc (Nat.le_refl _) _).alloc (by simp) _, by simp⟩
  · rw [heap_old _ _ (by omega), heap_new]
  · rw [← e1, heap_new]

set_option maxHeartbeats 4000000 in
set_option maxRecDepth 100000 in
theorem rsame_any {F G : Nat → Prop} (x : Tr) : ∀ (y : Tr) (w : World) (sv tv : Value), TrV F w x sv → TrV G w y tv →
    Calls Tryz.prog 19 #[.agg #[.int .i8 x.k, .int .i64 x.n, .string x.s, .string x.t, sv], .agg #[.int .i8 y.k, .int .i64 y.n, .string y.s, .string y.t, tv]] w fun e w' => e = .returned (.bool (x.same y)) ∧ Below w.heap.size w w' := by
  induction x using Tr.ind with
  | h x ih =>
    intro y w sv tv hx hy
    obtain ⟨p, c, rfl⟩ := hx.kids.slice
    obtain ⟨p2, c2, rfl⟩ := hy.kids.slice
    obtain ⟨n1, n2, hb1, hz1⟩ := two_new w (.cells #[.int .i8 x.k, .int .i64 x.n, .string x.s, .string x.t, .slice p x.l.length c] 28) (.cells #[.int .i8 y.k, .int .i64 y.n, .string y.s, .string y.t, .slice p2 y.l.length c2] 28)
    have hx1 := hx.below hb1
    have hy1 := hy.below hb1
    have hlen : x.l.length ≤ 2199023255552 := hx.kids.len
    have hlen2 : y.l.length ≤ 2199023255552 := hy.kids.len
    obtain ⟨a0, a1, a2, a3, a4⟩ := node_heap n1
    obtain ⟨b0, b1, b2, b3, b4⟩ := node_heap n2
    simp only [Nat.zero_add] at a1 a2 a3 a4 b1 b2 b3 b4
    have hrel0 := same_eq x y
    have IH := Lib.hid ih
    have HR := Lib.hid hrel0
    clear ih hrel0 hx hy n1 n2
    cases e0 : (x.k == y.k)
    · have g0 : (x.k != y.k) = true := by simpa using e0
      have HV : Hid (x.same y = false) := by unfold Hid; rw [HR.out, e0]; rfl
      clear e0
      go_enter Tryz.func19, Tryz.ntmps19
      go_wp2
      go_ret
      exact ⟨by rw [HV.out]; rfl, hb1⟩
    have g0 : (x.k != y.k) = false := by simpa using e0
    cases e1 : (x.n == y.n)
    · have g1 : (x.n != y.n) = true := by simpa using e1
      have HV : Hid (x.same y = false) := by unfold Hid; rw [HR.out, e0, e1]; rfl
      clear e0 e1
      go_enter Tryz.func19, Tryz.ntmps19
      go_wp2
      go_ret
      exact ⟨by rw [HV.out]; rfl, hb1⟩
    have g1 : (x.n != y.n) = false := by simpa using e1
    cases e2 : (x.s.toList == y.s.toList)
    · have HV : Hid (x.same y = false) := by unfold Hid; rw [HR.out, e0, e1, e2]; rfl
      clear e0 e1
      go_enter Tryz.func19, Tryz.ntmps19
      go_wp2
      go_ret
      exact ⟨by rw [HV.out]; rfl, hb1⟩
    cases e3 : (x.t.toList == y.t.toList)
    · have HV : Hid (x.same y = false) := by unfold Hid; rw [HR.out, e0, e1, e2, e3]; rfl
      clear e0 e1
      go_enter Tryz.func19, Tryz.ntmps19
      go_wp2
      go_ret
      exact ⟨by rw [HV.out]; rfl, hb1⟩
    cases e4 : ((x.l.length : Int) == (y.l.length : Int))
    · have g4 : ((x.l.length : Int) != (y.l.length : Int)) = true := by simpa using e4
      have HV : Hid (x.same y = false) := by unfold Hid; rw [HR.out, e0, e1, e2, e3, e4]; rfl
      clear e0 e1 e4
      go_enter Tryz.func19, Tryz.ntmps19
      go_wp2
      go_ret
      exact ⟨by rw [HV.out]; rfl, hb1⟩
    have g4 : ((x.l.length : Int) != (y.l.length : Int)) = false := by simpa using e4
    have hll : x.l.length = y.l.length := by have := beq_iff_eq.1 e4; omega
    have HLL := Lib.hid hll
    have hl1 : x.l.length ≤ y.l.length := by omega
    have hl2 : y.l.length ≤ x.l.length := by omega
    have HV : Hid (x.same y = Tr.same.samel x.l y.l) := by unfold Hid; rw [HR.out, e0, e1, e2, e3, e4]; rfl
    clear e0 e1 e4 hll HR
    go_enter Tryz.func19, Tryz.ntmps19
    go_wp2
    generalize (w.alloc (.cells #[.int .i8 x.k, .int .i64 x.n, .string x.s, .string x.t, .slice p x.l.length c] 28)).alloc (.cells #[.int .i8 y.k, .int .i64 y.n, .string y.s, .string y.t, .slice p2 y.l.length c2] 28) = w1 at hb1 hz1 hx1 hy1 a0 a1 a2 a3 a4 b0 b1 b2 b3 b4 ⊢
    clear a0 a1 a2 a3 b0 b1 b2 b3 g0 g1 e2 e3
    go_loopw [5] (fun i wr => ∃ k : Nat, k ≤ x.l.length ∧ i = .int .i64 k ∧ Tr.same.samel (x.l.drop k) (y.l.drop k) = Tr.same.samel x.l y.l ∧ Below w1.heap.size w1 wr) (fun i _ => x.l.length - (intOf i).toNat)
    case atStart => exact ⟨0, Nat.zero_le _, rfl, rfl, Below.refl _ _⟩
    case round =>
      obtain ⟨k, hk, rfl, hrest, hbr⟩ := hrel
      have hxr := hx1.below hbr
      have hyr := hy1.below hbr
      have hbw := hb1.trans (hbr.mono (by omega))
      have a4r := (hbr.cell (p := ⟨w.heap.size, 4, none⟩) (by show w.heap.size < _; omega)).trans a4
      have b4r := (hbr.cell (p := ⟨w.heap.size + 1, 4, none⟩) (by show w.heap.size + 1 < _; omega)).trans b4
      by_cases hlt : k < x.l.length
      · have hlt2 : k < y.l.length := by omega
        obtain ⟨g, o, kv, rfl, _, hnode, hkid⟩ := hxr.kids.at hlt
        obtain ⟨g2, o2, kv2, rfl, _, hnode2, hkid2⟩ := hyr.kids.at hlt2
        have hbd : Below wr.heap.size wr (wr.drewN 1) := below_drewN (Below.refl _ _) 1
        have cK := IH.out x.l[k] (List.getElem_mem hlt) y.l[k] (wr.drewN 1) kv kv2 (hkid.below hbd) (hkid2.below hbd)
        rw [samel_take hlt hlt2] at hrest
        obtain ⟨c0, c1, c2', c3, c4⟩ := hnode
        obtain ⟨d0, d1, d2, d3, d4⟩ := hnode2
        generalize x.l[k] = u at *
        generalize y.l[k] = v at *
        generalize u.same v = q at *
        have HN := Lib.hid hrest
        clear hrest hkid hkid2 hxr hyr hx1 hy1 a4 b4
        cases q
        all_goals
          go_wp2
          go_still_tail 10, (by kernel_rfl)
          change wpList _ _ _ _ _ (wr.drewN 1)
          generalize wr.drewN 1 = w4 at hbd cK ⊢
          go_wp2_with (go_at_call 19; refine cK.mono ?_; rintro e w5 ⟨rfl, hb5⟩)
        · go_ret
          exact ⟨by rw [HV.out, ← HN.out]; rfl, hbw.trans ((hbd.trans (hb5.mono hbd.size)).mono hbw.size)⟩
        · go_roundw
          case rel => exact ⟨k + 1, hlt, by go_num, by rw [← HN.out]; rfl, hbr.trans ((hbd.trans (hb5.mono hbd.size)).mono hbr.size)⟩
          case measure => simp [intOf]; omega
      · rw [List.drop_eq_nil_of_le (by omega)] at hrest
        have hrest' : Tr.same.samel x.l y.l = true := by rw [← hrest]; rfl
        have HN := Lib.hid hrest'
        clear hrest hrest' hxr hyr hx1 hy1 a4 b4
        go_wp2
        go_ret
        exact ⟨by rw [HV.out, HN.out]; rfl, hbw⟩
end Go.Proofs.YtjnmdbfijdnaiaaGreatDoor
