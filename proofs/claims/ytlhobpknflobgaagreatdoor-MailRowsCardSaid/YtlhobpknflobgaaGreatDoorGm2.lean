/-
  guard.Holds at a guard of no tests; mail.clause. Conditions: the trees lie as 'TrV' says, the binds as 'Binds'.
-/
import Derived.Test.YtlhobpknflobgaaGreatDoorGm1
namespace Go.Proofs.YtlhobpknflobgaaGreatDoor
open Go.RowKit

set_option maxHeartbeats 4000000 in
set_option maxRecDepth 100000 in
theorem holdsE_any {F G : Nat → Prop} {w : World} {sv v : Value} {l : List Bd} (hL : Letters w) (hx : TrV F w eG sv) (hl : Binds G w v l) :
    Calls Tryz.prog 18 #[.agg #[.int .i8 4, .int .i64 0, .string ⟨#[]⟩, .string ⟨#[]⟩, sv], v] w fun e w' => e = .returned (.bool (gmayB l)) ∧ Below w.heap.size w w' := by
  obtain ⟨p, c, rfl⟩ := hx.kids.slice
  obtain ⟨p2, c2, rfl⟩ := hl.slice
  obtain ⟨hb1, hz1, hn1⟩ := node_box w 25 4 0 ⟨#[]⟩ ⟨#[]⟩ (.slice p 0 c)
  have hx1 := hx.below hb1
  have hl1 := hl.under hb1
  have hL1 := hL.under hb1
  have hlen : l.length ≤ 2199023255552 := hl.len
  clear hx hl hL
  have hn1 : NodeAt (w.alloc (.cells #[.int .i8 4, .int .i64 0, .string ⟨#[]⟩, .string ⟨#[]⟩, .slice p 0 c] 25)) w.heap.size 0 eG (.slice p 0 c) := ⟨hn1.k, hn1.n, hn1.s, hn1.t, hn1.l⟩
  change Calls _ _ #[.agg #[.int .i8 4, .int .i64 0, .string ⟨#[]⟩, .string ⟨#[]⟩, .slice p 0 c], _] _ _
  change TrV F _ eG (.slice p 0 c) at hx1
  generalize hq : gmayB l = q
  have HQ := Lib.hid hq
  clear hq
  go_enter Tryz.func18, Tryz.ntmps18
  go_upto_region 1 with fail
  generalize w.alloc (.cells #[.int .i8 4, .int .i64 0, .string ⟨#[]⟩, .string ⟨#[]⟩, .slice p 0 c] 25) = w1 at hb1 hz1 hn1 hx1 hl1 hL1 ⊢
  have cG := guardEmpty_any hx1
  have cM := fun (W : World) (hb : Below w1.heap.size w1 W) => gmay_any (hL1.under hb) (hl1.under hb)
  rw [HQ.out] at cM
  have h4 : ∀ (W : World), Below w1.heap.size w1 W → W.cell? ⟨w.heap.size, 4, none⟩ = some (.slice p 0 c) := fun W hb => (hn1.keep (hb.block _ hn1.lt)).l
  have a0 : w1.cell? ⟨w.heap.size, 0, none⟩ = some (.int .i8 4) := hn1.k
  have a1 : w1.cell? ⟨w.heap.size, 1, none⟩ = some (.int .i64 0) := hn1.n
  have a2 : w1.cell? ⟨w.heap.size, 2, none⟩ = some (.string ⟨#[]⟩) := hn1.s
  have a3 : w1.cell? ⟨w.heap.size, 3, none⟩ = some (.string ⟨#[]⟩) := hn1.t
  have a4 : w1.cell? ⟨w.heap.size, 4, none⟩ = some (.slice p 0 c) := hn1.l
  have H4 := Lib.hid h4
  clear hx1 hl1 hL1 hn1 h4
  cases q
  · go_wp2_with (first
      | (go_at_call 57; refine cG.mono ?_; rintro e w5 ⟨rfl, hb5⟩)
      | (go_at_call 55; refine (cM _ hb5).mono ?_; rintro e w6 ⟨rfl, hb6⟩; have hB6 := hb5.trans (hb6.mono hb5.size)))
    go_ret
    exact ⟨rfl, hb1.trans (hB6.mono hb1.size)⟩
  · go_wp2_with (first
      | (go_at_call 57; refine cG.mono ?_; rintro e w5 ⟨rfl, hb5⟩)
      | (go_at_call 55; refine (cM _ hb5).mono ?_; rintro e w6 ⟨rfl, hb6⟩; have hB6 := hb5.trans (hb6.mono hb5.size); have b4 := H4.out _ hB6))
    go_loopw [20] (fun i wr => i = .int .i64 0 ∧ Below w1.heap.size w1 wr) (fun i _ => 0)
    case atStart => exact ⟨rfl, hB6⟩
    case round =>
      obtain ⟨rfl, hbr⟩ := hrel
      go_wp2
      go_ret
      exact ⟨rfl, hb1.trans (hbr.mono hb1.size)⟩

/-- May a tree be a clause of one pattern? -/
def clB (gB : Tr → Bool) (x : Tr) : Bool := (x.k == 3 && x.n == 1 && decide (2 ≤ x.l.length)) && (patB (x.l.getD 0 zeroT) && gB (x.l.getD 1 zeroT))

set_option maxHeartbeats 4000000 in
set_option maxRecDepth 100000 in
theorem clause_any {F : Nat → Prop} {gB : Tr → Bool} {w : World} {x : Tr} {sv : Value} (hL : Letters w) (hx : TrV F w x sv)
    (hG : ∀ (h : 1 < x.l.length) (W : World) (tv : Value), Below w.heap.size w W → TrV F W x.l[1] tv → Calls Tryz.prog 57 #[.agg #[.int .i8 x.l[1].k, .int .i64 x.l[1].n, .string x.l[1].s, .string x.l[1].t, tv]] W fun e w' => e = .returned (.bool (gB x.l[1])) ∧ Below W.heap.size W w') :
    Calls Tryz.prog 76 #[.agg #[.int .i8 x.k, .int .i64 x.n, .string x.s, .string x.t, sv]] w fun e w' => e = .returned (.bool (clB gB x)) ∧ Below w.heap.size w w' := by
  obtain ⟨p, c, rfl⟩ := hx.kids.slice
  have hlen : x.l.length ≤ 2199023255552 := hx.kids.len
  obtain ⟨hb1, hz1, hn1⟩ := node_box w 25 x.k x.n x.s x.t (.slice p x.l.length c)
  have hx1 := hx.below hb1
  have hL1 := hL.under hb1
  have hn1 : NodeAt (w.alloc (.cells #[.int .i8 x.k, .int .i64 x.n, .string x.s, .string x.t, .slice p x.l.length c] 25)) w.heap.size 0 x (.slice p x.l.length c) := ⟨hn1.k, hn1.n, hn1.s, hn1.t, hn1.l⟩
  have a0 := hn1.k
  have a1 := hn1.n
  have a2 := hn1.s
  have a3 := hn1.t
  have a4 := hn1.l
  simp only [Nat.zero_add] at a1 a2 a3 a4
  have HC := Lib.hid (show clB gB x = ((x.k == 3 && x.n == 1 && decide (2 ≤ x.l.length)) && (patB (x.l.getD 0 zeroT) && gB (x.l.getD 1 zeroT))) from rfl)
  have HG := Lib.hid hG
  clear hL hx hn1 hG
  generalize hcl : clB gB x = cl at HC ⊢
  clear hcl
  go_enter Tryz.func76, Tryz.ntmps76
  go_upto_region 1 with fail
  generalize w.alloc (.cells #[.int .i8 x.k, .int .i64 x.n, .string x.s, .string x.t, .slice p x.l.length c] 25) = w1 at hb1 hz1 a0 a1 a2 a3 a4 hx1 hL1 ⊢
  cases h1 : (x.k == 3)
  · have HN : Hid (cl = false) := by unfold Hid; rw [HC.out, h1]; rfl
    clear hx1 hL1 HG
    go_wp2_with fail
    go_ret
    exact ⟨by rw [HN.out]; rfl, hb1⟩
  cases h2 : (x.n == 1)
  · have HN : Hid (cl = false) := by unfold Hid; rw [HC.out, h1, h2]; rfl
    clear hx1 hL1 HG
    go_wp2_with fail
    go_ret
    exact ⟨by rw [HN.out]; rfl, hb1⟩
  by_cases h3 : 2 ≤ x.l.length
  rotate_left
  · have HN : Hid (cl = false) := by unfold Hid; rw [HC.out, decide_eq_false h3]; simp
    clear hx1 hL1 HG
    go_wp2_with fail
    go_ret
    exact ⟨by rw [HN.out]; rfl, hb1⟩
  obtain ⟨g, o, kv, rfl, _, hnode, hkid⟩ := hx1.kids.at (i := 0) (by omega)
  obtain ⟨g', o', kv2, hpe, _, hnode2, hkid2⟩ := hx1.kids.at (i := 1) (by omega)
  cases hpe
  have g0 : x.l.getD 0 zeroT = x.l[0] := by rw [List.getD_eq_getElem?_getD, List.getElem?_eq_getElem (by omega)]; rfl
  have g1 : x.l.getD 1 zeroT = x.l[1] := by rw [List.getD_eq_getElem?_getD, List.getElem?_eq_getElem (by omega)]; rfl
  obtain ⟨p5, c5, rfl⟩ := hkid.kids.slice
  obtain ⟨p6, c6, rfl⟩ := hkid2.kids.slice
  have cP := pattern_any hL1 hkid
  have cG := fun (W : World) (hb : Below w1.heap.size w1 W) => HG.out (by omega) W _ (hb1.trans (hb.mono hb1.size)) (hkid2.below hb)
  have HN : Hid (cl = (patB x.l[0] && gB x.l[1])) := by unfold Hid; rw [HC.out, h1, h2, decide_eq_true h3, g0, g1]; rfl
  have hn2 : ∀ (W : World), Below w1.heap.size w1 W → NodeAt W g (o + 1 * 5) x.l[1] (.slice p6 x.l[1].l.length c6) := fun W hb => hnode2.keep (hb.block _ hnode2.lt)
  have h4 : ∀ (W : World), Below w1.heap.size w1 W → W.cell? ⟨w.heap.size, 4, none⟩ = some (.slice (some ⟨g, o, none⟩) x.l.length c) := fun W hb => (hb.cell (p := ⟨w.heap.size, 4, none⟩) (cell_block a4)).trans a4
  have H4 := Lib.hid h4
  have HN2 := Lib.hid hn2
  obtain ⟨b0, b1, b2, b3, b4⟩ := hnode
  simp only [Nat.zero_mul, Nat.add_zero] at b0 b1 b2 b3 b4
  clear hx1 hL1 HG HC hn2 h4 g0 g1 hkid hkid2 hnode2
  have hp0 : 0 < x.l.length := by omega
  have hp1 : 1 < x.l.length := by omega
  have h3' : (2 : Int) ≤ (x.l.length : Int) := by omega
  have hp0' : (0 : Int) < (x.l.length : Int) := by omega
  have hp1' : (1 : Int) < (x.l.length : Int) := by omega
  generalize x.l[0] = y0 at *
  generalize x.l[1] = y1 at *
  generalize patB y0 = pb at cP HN
  generalize gB y1 = gb at cG HN
  cases pb
  · go_wp2_with (go_at_call 123; refine cP.mono ?_; rintro e w5 ⟨rfl, hb5⟩)
    go_ret
    exact ⟨by rw [HN.out]; rfl, hb1.trans (hb5.mono hb1.size)⟩
  · go_wp2_with (first
      | (go_at_call 123; refine cP.mono ?_; rintro e w5 ⟨rfl, hb5⟩; have d4 := H4.out _ hb5; obtain ⟨e0, e1, e2, e3, e4⟩ := HN2.out _ hb5; simp only [Nat.one_mul] at e0 e1 e2 e3 e4)
      | (go_at_call 57; refine (cG _ hb5).mono ?_; rintro e w6 ⟨rfl, hb6⟩; have hB6 := hb5.trans (hb6.mono hb5.size)))
    go_ret
    exact ⟨by rw [HN.out]; rfl, hb1.trans (hB6.mono hb1.size)⟩
end Go.Proofs.YtlhobpknflobgaaGreatDoor
