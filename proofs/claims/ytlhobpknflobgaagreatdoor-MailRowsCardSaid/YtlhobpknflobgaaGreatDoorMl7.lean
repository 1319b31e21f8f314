/-
  mail.Same and its closure, which counts. Conditions: the items lie as 'Items' says.
-/
import Derived.Test.YtlhobpknflobgaaGreatDoorMl6
namespace Go.Proofs.YtlhobpknflobgaaGreatDoor
open Go.RowKit

theorem Items.turn {F : Nat → Prop} {w w' : World} {v : Value} {l : List It} (h : Items F w v l) {T : Nat → Prop} (ht : Turn T w w') (hT : ∀ g, F g → ¬ T g) : Items F w' v l := h.keep fun g hg hlt => ht.block g hlt (hT g hg)
def neB (x y : It) : Bool := !(x.o == y.o && x.t.same y.t)

set_option maxHeartbeats 4000000 in
set_option maxRecDepth 100000 in
theorem same1_any {F G : Nat → Prop} {W : World} {x : It} {m : List It} {k : Nat} {sv mv : Value} {ba bb : Nat} (hx : TrV F W x.t sv) (hF : ∀ g, F g → ¬ g = ba) (hm : Items G W mv m) (hG : ∀ g, G g → ¬ g = ba) (hk : k < m.length) (hn : ¬ bb = ba)
    (h1 : W.heap[ba]? = some (.cells #[.int .i64 ((k : Int) - 1)] 3 (0, 0))) (h2 : W.cell? ⟨bb, 0, none⟩ = some mv) :
    Calls Tryz.prog 89 #[.agg #[.int .i8 x.t.k, .int .i64 x.t.n, .string x.t.s, .string x.t.t, sv, .bool x.o], .pointer (some ⟨ba, 0, none⟩), .pointer (some ⟨bb, 0, none⟩)] W fun e w' => e = .returned (.bool (neB x m[k])) ∧ w'.heap[ba]? = some (.cells #[.int .i64 k] 3 (0, 0)) ∧ Turn (· = ba) W w' := by
  obtain ⟨xt, xo⟩ := x
  dsimp only at hx ⊢
  obtain ⟨p1, c1, rfl⟩ := hx.kids.slice
  obtain ⟨p, c, rfl⟩ := hm.slice
  have hlen : m.length ≤ 2199023255552 := hm.len
  have hlt0 : ba < W.heap.size := cell_block (one_cell h1)
  have hb1 := alloc_below W (.cells #[.int .i8 xt.k, .int .i64 xt.n, .string xt.s, .string xt.t, .slice p1 xt.l.length c1, .bool xo] 65)
  have n1 := heap_new W (.cells #[.int .i8 xt.k, .int .i64 xt.n, .string xt.s, .string xt.t, .slice p1 xt.l.length c1, .bool xo] 65)
  have g1 := (hb1.block ba hlt0).trans h1
  have g2 := (hb1.cell (p := ⟨bb, 0, none⟩) (cell_block h2)).trans h2
  have hx1 := hx.below hb1
  have hm1 := hm.under hb1
  have hw : IntKind.i64.wrap ((k : Int) - 1 + 1) = k := by rw [Int.sub_add_cancel]; rw [IntKind.wrap_i64]; omega
  have ht1 := Turn.trans (Turn.of_below (T := (· = ba)) hb1) (Turn.setCell (W.alloc (.cells #[.int .i8 xt.k, .int .i64 xt.n, .string xt.s, .string xt.t, .slice p1 xt.l.length c1, .bool xo] 65)) ⟨ba, 0, none⟩ (.int .i64 k))
  have hts := Turn.setCell (W.alloc (.cells #[.int .i8 xt.k, .int .i64 xt.n, .string xt.s, .string xt.t, .slice p1 xt.l.length c1, .bool xo] 65)) ⟨ba, 0, none⟩ (.int .i64 k)
  have k1 := one_set (u := .int .i64 k) g1
  have k2 := hts.cell g2 hn
  have hx2 := hx1.turn hts hF
  have hm2 := hm1.turn hts hG
  have n2 := (hts.block W.heap.size (by simp) (by show ¬ W.heap.size = ba; omega)).trans n1
  have c1' := one_cell g1
  have f1' := one_free g1
  clear hx hm h1 h2 hx1 hm1 n1 g2 hb1 hlt0
  generalize hm0 : m[k] = y
  have HY := Lib.hid hm0
  clear hm0
  go_enter Tryz.func89, Tryz.ntmps89
  go_upto_region 2 with fail
  try rw [hw]
  generalize (W.alloc (.cells #[.int .i8 xt.k, .int .i64 xt.n, .string xt.s, .string xt.t, .slice p1 xt.l.length c1, .bool xo] 65)).setCell ⟨ba, 0, none⟩ (.int .i64 k) = w2 at ht1 hts k1 k2 hx2 hm2 n2 ⊢
  clear hts c1' f1' g1
  obtain ⟨⟨a0, a1, a2, a3, a4⟩, a5⟩ := item_heap n2
  simp only [Nat.zero_add] at a1 a2 a3 a4
  have hck := one_cell k1
  obtain ⟨g, o, kv, rfl, _, hnode, b5, hkid⟩ := hm2.at hk
  rw [HY.out] at hnode b5 hkid
  clear hw HY n2 hm2
  obtain ⟨b0, b1, b2, b3, b4⟩ := hnode
  obtain ⟨yt, yo⟩ := y
  dsimp only at b0 b1 b2 b3 b4 b5 hkid
  obtain ⟨p3, c3, rfl⟩ := hkid.kids.slice
  have hbd : Below w2.heap.size w2 (w2.drewN 1) := below_drewN (Below.refl _ _) 1
  have cS := same17_any xt yt (w2.drewN 1) _ _ (hx2.below hbd) (hkid.below hbd)
  have HN := Lib.hid (show neB ⟨xt, xo⟩ ⟨yt, yo⟩ = !(xo == yo && xt.same yt) from rfl)
  generalize xt.same yt = sb at cS HN
  clear hx2 hkid
  cases xo <;> cases yo
  case' false.true =>
    have HE : Hid (neB ⟨xt, false⟩ ⟨yt, true⟩ = true) := by unfold Hid; rw [HN.out]; rfl
    clear cS HN
    go_quiet (fail)
  case' true.false =>
    have HE : Hid (neB ⟨xt, true⟩ ⟨yt, false⟩ = true) := by unfold Hid; rw [HN.out]; rfl
    clear cS HN
    go_quiet (fail)
  case' false.false =>
    have HE : Hid (neB ⟨xt, false⟩ ⟨yt, false⟩ = !sb) := by unfold Hid; rw [HN.out]; rfl
    clear HN
    go_still_tail 16, (by kernel_rfl)
    change wpList _ _ _ _ _ (w2.drewN 1)
    generalize w2.drewN 1 = w4 at hbd cS ⊢
    go_wp2_with (go_at_call 90; refine cS.mono ?_; rintro e w5 ⟨rfl, hb5⟩)
  case' true.true =>
    have HE : Hid (neB ⟨xt, true⟩ ⟨yt, true⟩ = !sb) := by unfold Hid; rw [HN.out]; rfl
    clear HN
    go_still_tail 16, (by kernel_rfl)
    change wpList _ _ _ _ _ (w2.drewN 1)
    generalize w2.drewN 1 = w4 at hbd cS ⊢
    go_wp2_with (go_at_call 90; refine cS.mono ?_; rintro e w5 ⟨rfl, hb5⟩)
  case false.true =>
    go_wp2_with fail
    go_ret
    exact ⟨by rw [HE.out]; rfl, k1, ht1.trans (Turn.of_below (below_drewN (Below.refl _ _) _))⟩
  case true.false =>
    go_wp2_with fail
    go_ret
    exact ⟨by rw [HE.out]; rfl, k1, ht1.trans (Turn.of_below (below_drewN (Below.refl _ _) _))⟩
  all_goals
    have hB := hbd.trans (hb5.mono hbd.size)
    go_ret
    exact ⟨by rw [HE.out]; rfl, (hB.block ba (cell_block hck)).trans k1, ht1.trans (Turn.of_below hB)⟩

theorem sameI_drop2 {l m : List It} {k : Nat} (h1 : k < l.length) (h2 : k < m.length) : sameI (l.drop k) (m.drop k) = (!neB l[k] m[k] && sameI (l.drop (k + 1)) (m.drop (k + 1))) := by
  rw [sameI_drop h1 h2]; simp [neB]

set_option maxHeartbeats 4000000 in
set_option maxRecDepth 100000 in
theorem pickS_any {F G : Nat → Prop} {l m : List It} {w : World} {v mv : Value} {ba bb : Nat} (hl : Items F w v l) (hF : ∀ g, F g → ¬ g = ba) (hm : Items G w mv m) (hG : ∀ g, G g → ¬ g = ba) (hlm : l.length = m.length) (hn : ¬ bb = ba)
    (h1 : w.heap[ba]? = some (.cells #[.int .i64 (-1)] 3 (0, 0))) (h2 : w.cell? ⟨bb, 0, none⟩ = some mv) :
    Calls Tryz.prog 77 #[v, .func (Fn.func 89) #[] #[.pointer (some ⟨ba, 0, none⟩), .pointer (some ⟨bb, 0, none⟩)]] w fun e w' => (∃ j : Int, e = .returned (.tuple #[.int .i64 j, .bool (!sameI l m)])) ∧ Turn (· = ba) w w' := by
  obtain ⟨p, c, rfl⟩ := hl.slice
  have hlen : l.length ≤ 2199023255552 := hl.len
  have HL := Lib.hid hl
  have HM := Lib.hid hm
  have HLM := Lib.hid hlm
  have H1 := Lib.hid h1
  have H2 := Lib.hid h2
  clear hl hm hlm h1 h2
  generalize hsm : sameI l m = sm
  have HSM := Lib.hid hsm
  clear hsm
  go_enter Tryz.func77, Tryz.ntmps77
  go_wp2
  go_loopw [10] (fun i wr => ∃ k : Nat, k ≤ l.length ∧ i = .int .i64 k ∧ sameI (l.drop k) (m.drop k) = sm ∧ wr.heap[ba]? = some (.cells #[.int .i64 ((k : Int) - 1)] 3 (0, 0)) ∧ Turn (· = ba) w wr) (fun i _ => l.length - (intOf i).toNat)
  case atStart => exact ⟨0, Nat.zero_le _, rfl, HSM.out, H1.out, Turn.refl _ _⟩
  case round =>
    obtain ⟨k, hk, rfl, hrest, hba, htr⟩ := hrel
    by_cases hlt : k < l.length
    · have hlt2 : k < m.length := by have := HLM.out; omega
      obtain ⟨g, o, kv, rfl, hg, ⟨a0, a1, a2, a3, a4⟩, a5, hkid⟩ := (HL.out.turn htr hF).at hlt
      obtain ⟨p3, c3, rfl⟩ := hkid.kids.slice
      rw [sameI_drop2 hlt hlt2] at hrest
      have hb3 := alloc_below wr (.cells #[.int .i8 l[k].t.k, .int .i64 l[k].t.n, .string l[k].t.s, .string l[k].t.t, .slice p3 l[k].t.l.length c3, .bool l[k].o] 65)
      obtain ⟨⟨b0, b1, b2, b3, b4⟩, b5⟩ := item_heap (heap_new wr (.cells #[.int .i8 l[k].t.k, .int .i64 l[k].t.n, .string l[k].t.s, .string l[k].t.t, .slice p3 l[k].t.l.length c3, .bool l[k].o] 65))
      simp only [Nat.zero_add] at b1 b2 b3 b4
      have ht3 := htr.trans (Turn.of_below hb3)
      have cK := same1_any (x := l[k]) (hkid.below hb3) hF (HM.out.turn ht3 hG) hG hlt2 hn ((hb3.block ba (cell_block (one_cell hba))).trans hba) (ht3.cell H2.out hn)
      clear hkid hba
      generalize l[k] = x at *
      generalize neB x m[k] = nb at cK hrest
      cases nb
      · have HN : Hid (sameI (l.drop (k + 1)) (m.drop (k + 1)) = sm) := by unfold Hid; rw [← hrest]; rfl
        clear hrest
        go_wp2_with (go_at_call 89; refine cK.mono ?_; rintro e w5 ⟨rfl, hb5, ht5⟩)
        go_roundw
        case rel => exact ⟨k + 1, hlt, by go_num, HN.out, by rw [hb5, show ((k + 1 : Nat) : Int) - 1 = (k : Int) from by omega], ht3.trans ht5⟩
        case measure => simp [intOf]; omega
      · have HN : Hid (sm = false) := by unfold Hid; rw [← hrest]; rfl
        clear hrest
        go_wp2_with (go_at_call 89; refine cK.mono ?_; rintro e w5 ⟨rfl, hb5, ht5⟩)
        go_ret2
        exact ⟨⟨k, by rw [HN.out]; rfl⟩, ht3.trans ht5⟩
    · rw [List.drop_eq_nil_of_le (by omega), List.drop_eq_nil_of_le (by have := HLM.out; omega)] at hrest
      have HN := Lib.hid hrest
      clear hrest
      go_wp2
      go_ret2
      exact ⟨⟨0, by rw [← HN.out]; rfl⟩, htr⟩

set_option maxHeartbeats 4000000 in
set_option maxRecDepth 100000 in
theorem mailsame_any {F G : Nat → Prop} {w : World} {l m : List It} {v u : Value} (hl : Items F w v l) (hm : Items G w u m) :
    Calls Tryz.prog 47 #[v, u] w fun e w' => e = .returned (.bool (sameI l m)) ∧ Below w.heap.size w w' := by
  have hlen : l.length ≤ 2199023255552 := hl.len
  have hlen2 : m.length ≤ 2199023255552 := hm.len
  obtain ⟨p, c, rfl⟩ := hl.slice
  obtain ⟨p2, c2, rfl⟩ := hm.slice
  have hb1 := alloc_below w (.cells #[.slice p2 m.length c2] 55)
  have n1 := one_cell (heap_new w (.cells #[.slice p2 m.length c2] 55))
  cases e4 : ((l.length : Int) == (m.length : Int))
  · have g4 : ((l.length : Int) != (m.length : Int)) = true := by simpa using e4
    have HE : Hid (sameI l m = false) := by
      unfold Hid
      cases h : sameI l m
      · rfl
      · have := sameI_len h; rw [this] at e4; simp at e4
    clear e4 hl hm
    go_enter Tryz.func47, Tryz.ntmps47
    go_wp2_with fail
    go_ret
    exact ⟨by rw [HE.out]; rfl, hb1⟩
  have g4 : ((l.length : Int) != (m.length : Int)) = false := by simpa using e4
  have hll : l.length = m.length := by have := beq_iff_eq.1 e4; omega
  have HLL := Lib.hid hll
  have hb2 := alloc_below (w.alloc (.cells #[.slice p2 m.length c2] 55)) (.cells #[.int .i64 (-1)] 3)
  have n2 := heap_new (w.alloc (.cells #[.slice p2 m.length c2] 55)) (.cells #[.int .i64 (-1)] 3)
  have hz : (w.alloc (.cells #[.slice p2 m.length c2] 55)).heap.size = w.heap.size + 1 := by simp
  rw [hz] at hb2 n2
  have hB2 := hb1.trans (hb2.mono (by omega))
  have k1 := (hb2.cell (p := ⟨w.heap.size, 0, none⟩) (by simp)).trans n1
  have hl2 : Items (fun g => g < w.heap.size) _ _ _ := (hl.mono (F' := fun g => g < w.heap.size) fun g _ h => h).under hB2
  have hm2 : Items (fun g => g < w.heap.size) _ _ _ := (hm.mono (F' := fun g => g < w.heap.size) fun g _ h => h).under hB2
  have cP := pickS_any hl2 (fun g hg => by omega) hm2 (fun g hg => by omega) hll (ba := w.heap.size + 1) (bb := w.heap.size) (by omega) n2 k1
  have HB : Hid (Below w.heap.size w _) := Lib.hid hB2
  have hz2 : w.heap.size ≤ ((w.alloc (.cells #[.slice p2 m.length c2] 55)).alloc (.cells #[.int .i64 (-1)] 3)).heap.size := by simp; omega
  have HZ := Lib.hid hz2
  clear e4 hll n2 hl2 hm2 k1 hz hl hm hz2
  generalize sameI l m = sm at cP ⊢
  go_enter Tryz.func47, Tryz.ntmps47
  go_upto_region 4 with fail
  go_wp2_with (go_at_call 77; refine cP.mono ?_; rintro e w5 ⟨⟨j, rfl⟩, ht5⟩)
  go_ret
  exact ⟨by simp, HB.out.trans (ht5.below HZ.out fun k hk e => by omega)⟩
end Go.Proofs.YtlhobpknflobgaaGreatDoor
