/-
  match.Match; pleachref10.Same. Conditions: the trees lie as 'TrV' says, the names as 'Binds'.
-/
import Derived.Test.YtjnmdbfijdnaiaaGreatDoorMt5
namespace Go.Proofs.YtjnmdbfijdnaiaaGreatDoor
open Go.RowKit

theorem kids_one {F : Nat → Prop} {w : World} {g : Nat} {x : Tr} {sv : Value} (hn : NodeAt w g 0 x sv) (hx : TrV F w x sv) (hg : F g) : Kids F w (.slice (some ⟨g, 0, none⟩) 1 1) [x] :=
  .mk _ 1 [x] (fun _ => sv) (Nat.le_refl _) (by simp [BL]) (fun i hi => by have : i = 0 := by simpa using hi
                                                                           subst this; exact hx.wf)
    (fun i hi => by have : i = 0 := by simpa using hi
                    subst this; exact ⟨g, 0, rfl, hg, hn⟩)
    (fun i hi => by have : i = 0 := by simpa using hi
                    subst this; exact hx.kids)
structure MatchHyp (F : Nat → Prop) (p x : Tr) (l : List Bd) (w : World) (pv xv v : Value) : Prop where
  lt : Letters w
  fr : ∀ k, w.heap.size ≤ k → F k
  hp : TrV F w p pv
  hx : TrV F w x xv
  hl : Binds F w v l
theorem AllPost.of {F : Nat → Prop} {q : List Bd × Bool × Int} {w w1 w' : World} {e : Ending} (hb : Below w.heap.size w w1) (h : AllPost F q w1 e w') : AllPost F q w e w' := by
  obtain ⟨v', l', ok, er, h1, h2, h3, h4⟩ := h
  exact ⟨v', l', ok, er, h1, h2, hb.trans (h3.mono hb.size), h4⟩

set_option maxHeartbeats 2000000 in
set_option maxRecDepth 100000 in
theorem mmatch_any {F : Nat → Prop} {p x : Tr} {l : List Bd} {w : World} {pv xv v : Value} (h : MatchHyp F p x l w pv xv v) :
    Calls Tryz.prog 9 #[.agg #[.int .i8 p.k, .int .i64 p.n, .string p.s, .string p.t, pv], .agg #[.int .i8 x.k, .int .i64 x.n, .string x.s, .string x.t, xv], v] w (AllPost F (allS [p] [x] l) w) := by
  obtain ⟨p1, c1, rfl⟩ := h.hp.kids.slice
  obtain ⟨p2, c2, rfl⟩ := h.hx.kids.slice
  obtain ⟨pl, cl, rfl⟩ := h.hl.slice
  obtain ⟨n1, n2, hb1, hz1⟩ := two_new w (.cells #[.int .i8 p.k, .int .i64 p.n, .string p.s, .string p.t, .slice p1 p.l.length c1] 25) (.cells #[.int .i8 x.k, .int .i64 x.n, .string x.s, .string x.t, .slice p2 x.l.length c2] 28)
  obtain ⟨a0, a1, a2, a3, a4⟩ := node_heap n1
  obtain ⟨b0, b1, b2, b3, b4⟩ := node_heap n2
  simp only [Nat.zero_add] at a1 a2 a3 a4 b1 b2 b3 b4
  clear n1 n2
  have H := Lib.hid h
  clear h
  go_enter Tryz.func9, Tryz.ntmps9
  go_upto_region 1 with fail
  generalize (w.alloc (.cells #[.int .i8 p.k, .int .i64 p.n, .string p.s, .string p.t, .slice p1 p.l.length c1] 25)).alloc (.cells #[.int .i8 x.k, .int .i64 x.n, .string x.s, .string x.t, .slice p2 x.l.length c2] 28) = w1 at hb1 hz1 a0 a1 a2 a3 a4 b0 b1 b2 b3 b4 ⊢
  obtain ⟨n3, n4, hb3, hz3⟩ := two_new w1 (.cells #[.int .i8 p.k, .int .i64 p.n, .string p.s, .string p.t, .slice p1 p.l.length c1] 25) (.cells #[.int .i8 x.k, .int .i64 x.n, .string x.s, .string x.t, .slice p2 x.l.length c2] 28)
  have hB := hb1.trans (hb3.mono hb1.size)
  have hp3 := kids_one (F := F) (node_heap n3) (H.out.hp.below hB) (H.out.fr _ (by omega))
  have hx3 := kids_one (F := F) (node_heap n4) (H.out.hx.below hB) (H.out.fr _ (by omega))
  have cA := mall_any (F := F) (p := [p]) (t := [x]) (l := l) ⟨H.out.lt.under hB, fun k hk => H.out.fr k (by have := hB.size; omega), hp3, hx3, H.out.hl.under hB, by simp⟩
  have hb31 := alloc_below w1 (.cells #[.int .i8 p.k, .int .i64 p.n, .string p.s, .string p.t, .slice p1 p.l.length c1] 25)
  have f : ∀ o u, w1.cell? ⟨w.heap.size + 1, o, none⟩ = some u → (w1.alloc (.cells #[.int .i8 p.k, .int .i64 p.n, .string p.s, .string p.t, .slice p1 p.l.length c1] 25)).cell? ⟨w.heap.size + 1, o, none⟩ = some u := fun o u h => (hb31.cell (p := ⟨w.heap.size + 1, o, none⟩) (cell_block h)).trans h
  have b0 := f _ _ b0
  have b1 := f _ _ b1
  have b2 := f _ _ b2
  have b3 := f _ _ b3
  have b4 := f _ _ b4
  clear hp3 hx3 n3 n4 hz1 hz3 f
  go_wp2_with (go_at_call 15; refine cA.mono ?_; rintro e w5 ⟨v5, l5, ok5, er5, rfl, hl5, hb5, hq5⟩; obtain ⟨p5, c5, rfl⟩ := hl5.slice)
  go_ret3
  exact ⟨_, l5, ok5, er5, rfl, hl5, hB.trans (hb5.mono hB.size), hq5⟩

/-- Are two rows of binds the same? -/
def sameB : List Bd → List Bd → Bool
  | [], [] => true
  | a :: r, b :: q => (a.s.toList == b.s.toList && a.t.same b.t) && sameB r q
  | _, _ => false
theorem sameB_drop {l m : List Bd} {k : Nat} (h1 : k < l.length) (h2 : k < m.length) : sameB (l.drop k) (m.drop k) = ((l[k].s.toList == m[k].s.toList && l[k].t.same m[k].t) && sameB (l.drop (k + 1)) (m.drop (k + 1))) := by
  rw [List.drop_eq_getElem_cons h1, List.drop_eq_getElem_cons h2, sameB]
theorem sameB_len : ∀ {l m : List Bd}, sameB l m = true → l.length = m.length
  | [], [], _ => rfl
  | a :: r, b :: q, h => by
    rw [sameB, Bool.and_eq_true] at h
    simp [sameB_len h.2]
  | [], _ :: _, h => by simp [sameB] at h
  | _ :: _, [], h => by simp [sameB] at h

set_option maxHeartbeats 4000000 in
set_option maxRecDepth 100000 in
theorem bsame_any {F G : Nat → Prop} {l m : List Bd} {w : World} {v u : Value} (hl : Binds F w v l) (hm : Binds G w u m) :
    Calls Tryz.prog 11 #[v, u] w fun e w' => e = .returned (.bool (sameB l m)) ∧ Below w.heap.size w w' := by
  have hlen : l.length ≤ 2199023255552 := hl.len
  have hlen2 : m.length ≤ 2199023255552 := hm.len
  obtain ⟨p, c, rfl⟩ := hl.slice
  obtain ⟨p2, c2, rfl⟩ := hm.slice
  have HL := Lib.hid hl
  have HM := Lib.hid hm
  clear hl hm
  cases e1 : ((l.length : Int) != (m.length : Int))
  rotate_left 1
  · have hs : sameB l m = false := by
      cases h : sameB l m
      · rfl
      · have := sameB_len h; simp at e1; omega
    have HS := Lib.hid hs
    clear hs
    go_enter Tryz.func11, Tryz.ntmps11
    go_wp2_with fail
    go_ret
    exact ⟨by rw [HS.out]; rfl, Below.refl _ _⟩
  have hll : l.length = m.length := by simp at e1; omega
  have HLL := Lib.hid hll
  clear hll
  go_enter Tryz.func11, Tryz.ntmps11
  go_wp2_with fail
  clear e1
  go_loopw [5] (fun i wr => ∃ k : Nat, k ≤ l.length ∧ i = .int .i64 k ∧ sameB (l.drop k) (m.drop k) = sameB l m ∧ Below w.heap.size w wr) (fun i _ => l.length - (intOf i).toNat)
  case atStart => exact ⟨0, Nat.zero_le _, rfl, rfl, Below.refl _ _⟩
  case round =>
    obtain ⟨k, hk, rfl, hrest, hbr⟩ := hrel
    by_cases hlt : k < l.length
    · have hlt2 : k < m.length := by have := HLL.out; omega
      obtain ⟨g, o, kv, rfl, _, hs0, hsz, hnode, hkid⟩ := (HL.out.under hbr).at hlt
      obtain ⟨g2, o2, kv2, rfl, _, hs2, hsz2, hnode2, hkid2⟩ := (HM.out.under hbr).at hlt2
      obtain ⟨p3, c3, rfl⟩ := hkid.kids.slice
      obtain ⟨p4, c4, rfl⟩ := hkid2.kids.slice
      rw [sameB_drop hlt hlt2] at hrest
      have hd : Below wr.heap.size wr wr.drew := below_drewN (Below.refl _ _) 1
      have cS := rsame_any l[k].t m[k].t wr.drew _ _ (hkid.below hd) (hkid2.below hd)
      clear hkid hkid2
      cases eS : (l[k].s.toList == m[k].s.toList)
      · rw [eS] at hrest
        have HR := Lib.hid (show sameB l m = false from hrest.symm)
        obtain ⟨a0, a1, a2, a3, a4⟩ := hnode
        obtain ⟨b0, b1, b2, b3, b4⟩ := hnode2
        clear hrest cS
        go_upto_region 6 with fail
        go_quiet (fail)
        go_wp2
        go_ret
        exact ⟨by rw [HR.out]; rfl, by first | exact hbr.drew | exact below_drewN hbr _⟩
      · rw [eS] at hrest
        have hS : ∀ W : World, Below wr.heap.size wr W → W.cell? ⟨g, o + k * 6, none⟩ = some (.string l[k].s) ∧ W.cell? ⟨g2, o2 + k * 6, none⟩ = some (.string m[k].s) ∧
            W.cell? ⟨g, o + k * 6 + 1, none⟩ = some (.int .i8 l[k].t.k) ∧ W.cell? ⟨g, o + k * 6 + 1 + 1, none⟩ = some (.int .i64 l[k].t.n) ∧ W.cell? ⟨g, o + k * 6 + 1 + 2, none⟩ = some (.string l[k].t.s) ∧ W.cell? ⟨g, o + k * 6 + 1 + 3, none⟩ = some (.string l[k].t.t) ∧ W.cell? ⟨g, o + k * 6 + 1 + 4, none⟩ = some (.slice p3 l[k].t.l.length c3) ∧
            W.cell? ⟨g2, o2 + k * 6 + 1, none⟩ = some (.int .i8 m[k].t.k) ∧ W.cell? ⟨g2, o2 + k * 6 + 1 + 1, none⟩ = some (.int .i64 m[k].t.n) ∧ W.cell? ⟨g2, o2 + k * 6 + 1 + 2, none⟩ = some (.string m[k].t.s) ∧ W.cell? ⟨g2, o2 + k * 6 + 1 + 3, none⟩ = some (.string m[k].t.t) ∧ W.cell? ⟨g2, o2 + k * 6 + 1 + 4, none⟩ = some (.slice p4 m[k].t.l.length c4) := by
          intro W hb
          obtain ⟨x0, x1, x2, x3, x4⟩ := hnode.keep (hb.block g hnode.lt)
          obtain ⟨y0, y1, y2, y3, y4⟩ := hnode2.keep (hb.block g2 hnode2.lt)
          exact ⟨(hb.cell (p := ⟨g, o + k * 6, none⟩) (cell_block hs0)).trans hs0, (hb.cell (p := ⟨g2, o2 + k * 6, none⟩) (cell_block hs2)).trans hs2, x0, x1, x2, x3, x4, y0, y1, y2, y3, y4⟩
        have hS0 := hS wr (Below.refl _ _)
        clear hs0 hs2 hnode hnode2
        generalize l[k].t.same m[k].t = ss at cS hrest
        have HR := Lib.hid hrest
        clear hrest
        go_upto_region 6 with fail
        go_region_held3 (fun W => W.cell? ⟨g, o + k * 6, none⟩ = some (.string l[k].s) ∧ W.cell? ⟨g2, o2 + k * 6, none⟩ = some (.string m[k].s) ∧
            W.cell? ⟨g, o + k * 6 + 1, none⟩ = some (.int .i8 l[k].t.k) ∧ W.cell? ⟨g, o + k * 6 + 1 + 1, none⟩ = some (.int .i64 l[k].t.n) ∧ W.cell? ⟨g, o + k * 6 + 1 + 2, none⟩ = some (.string l[k].t.s) ∧ W.cell? ⟨g, o + k * 6 + 1 + 3, none⟩ = some (.string l[k].t.t) ∧ W.cell? ⟨g, o + k * 6 + 1 + 4, none⟩ = some (.slice p3 l[k].t.l.length c3) ∧
            W.cell? ⟨g2, o2 + k * 6 + 1, none⟩ = some (.int .i8 m[k].t.k) ∧ W.cell? ⟨g2, o2 + k * 6 + 1 + 1, none⟩ = some (.int .i64 m[k].t.n) ∧ W.cell? ⟨g2, o2 + k * 6 + 1 + 2, none⟩ = some (.string m[k].t.s) ∧ W.cell? ⟨g2, o2 + k * 6 + 1 + 3, none⟩ = some (.string m[k].t.t) ∧ W.cell? ⟨g2, o2 + k * 6 + 1 + 4, none⟩ = some (.slice p4 m[k].t.l.length c4)) (first | exact hS0 | exact hS1) (first
          | (go_at_call 19; refine cS.mono ?_; rintro e w9 ⟨rfl, hb9⟩; have hS1 := hS _ (hd.trans (hb9.mono hd.size))))
        have hB9 := hbr.trans ((hd.trans (hb9.mono hd.size)).mono hbr.size)
        cases ss
        · have HF := Lib.hid (show sameB l m = false from HR.out.symm)
          go_wp2
          go_ret
          exact ⟨by rw [HF.out]; rfl, hB9⟩
        · have HF := Lib.hid (show sameB (l.drop (k + 1)) (m.drop (k + 1)) = sameB l m from HR.out)
          go_wp2
          go_roundw
          case rel => exact ⟨k + 1, hlt, by go_num, HF.out, hB9⟩
          case measure => simp [intOf]; omega
    · rw [List.drop_eq_nil_of_le (by omega), List.drop_eq_nil_of_le (by have := HLL.out; omega)] at hrest
      have HR := Lib.hid (show sameB l m = true from hrest.symm)
      clear hrest
      go_wp2
      go_ret
      exact ⟨by rw [HR.out]; rfl, hbr⟩
end Go.Proofs.YtjnmdbfijdnaiaaGreatDoor
