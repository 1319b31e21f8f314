/-
  pleachlaw11.GuardEach holds. Conditions: the trees lie as 'TrV' says, the names as 'Binds' says, the word can be read; the table of letters is as it was laid.
-/
import Derived.Test.YtlhobpknflobgaaGreatDoorT03
import Derived.Test.YtlhobpknflobgaaGreatDoorT02
import Derived.Test.YtlhobpknflobgaaGreatDoorS23
namespace Go.Proofs.YtlhobpknflobgaaGreatDoor
open Go.RowKit

def turnC (sv : Value) : Array Value := #[.int .i8 4, .int .i64 0, .string ⟨#[]⟩, .string ⟨#[]⟩, sv]
def GeRel (g : Tr) (l : List Bd) (b : Nat) (w7 : World) (all i : Value) (wr : World) : Prop :=
  ∃ k : Nat, k ≤ g.l.length ∧ i = .int .i64 k ∧ all = .bool ((g.l.take k).all (holdS l)) ∧ ∃ sv L, wr.heap[b]? = some (.cells (turnC sv) 25 (0, 0)) ∧ TRow (fun _ => True) b b 25 wr sv L ∧ L.map (·.1) = g.l.reverse.take k ∧ L.length = k ∧ Below b w7 wr
theorem turn_next {g : Tr} {k : Nat} (h : k < g.l.length) : g.l.reverse.take (k + 1) = g.l.reverse.take k ++ [g.l[g.l.length - 1 - k]'(by omega)] := by
  rw [List.take_succ_eq_append_getElem (by simpa using h), List.getElem_reverse]
theorem turn_set {w : World} {b : Nat} {sv u : Value} {t : TypeId} (h : w.heap[b]? = some (.cells (turnC sv) t (0, 0))) : (w.setCell ⟨b, 4, none⟩ u).heap[b]? = some (.cells (turnC u) t (0, 0)) := (arr_set (i := 4) (u := u) h).trans rfl

set_option maxHeartbeats 16000000 in
set_option maxRecDepth 100000 in
theorem guardEach_any {w : World} {g : Tr} {l : List Bd} {s : ByteArray} {t : Tr} {gv v sv : Value} (hL : Letters w) (hg : TrV (fun _ => True) w g gv) (hl : Binds (fun _ => True) w v l) (hs : s.size ≤ 140737488355328) (hx : TrV (fun _ => True) w t sv) :
    Calls Tryz.prog 3 #[.agg #[.int .i8 g.k, .int .i64 g.n, .string g.s, .string g.t, gv], v, .string s, .agg #[.int .i8 t.k, .int .i64 t.n, .string t.s, .string t.t, sv]] w fun e w' => e = .returned (.bool true) ∧ Below w.heap.size w w' := by
  obtain ⟨pg, cg, rfl⟩ := hg.kids.slice
  obtain ⟨pt, ct, rfl⟩ := hx.kids.slice
  obtain ⟨pl, cl, rfl⟩ := hl.slice
  obtain ⟨n1, n2, hb1, hz1⟩ := two_new w (.cells #[.int .i8 g.k, .int .i64 g.n, .string g.s, .string g.t, .slice pg g.l.length cg] 25) (.cells #[.int .i8 t.k, .int .i64 t.n, .string t.s, .string t.t, .slice pt t.l.length ct] 29)
  have HL := Lib.hid hL
  have HG := Lib.hid (hg.below hb1)
  have HT := Lib.hid (hx.below hb1)
  have HS := Lib.hid (hl.under hb1)
  clear hx hl hL hg hz1
  go_enter Tryz.func3, Tryz.ntmps3
  go_upto_region 1 with fail
  change Code.wp _ _ _ _ ((w.alloc (.cells #[.int .i8 g.k, .int .i64 g.n, .string g.s, .string g.t, .slice pg g.l.length cg] 25)).alloc (.cells #[.int .i8 t.k, .int .i64 t.n, .string t.s, .string t.t, .slice pt t.l.length ct] 29))
  generalize (w.alloc (.cells #[.int .i8 g.k, .int .i64 g.n, .string g.s, .string g.t, .slice pg g.l.length cg] 25)).alloc (.cells #[.int .i8 t.k, .int .i64 t.n, .string t.s, .string t.t, .slice pt t.l.length ct] 29) = w1 at n1 n2 hb1 HT HS HG ⊢
  have HGC := Lib.hid (fun (V : World) (hv : Below w1.heap.size w1 V) => Lib.hid (show V.cell? ⟨w.heap.size, 0, none⟩ = some (.int .i8 g.k) ∧ V.cell? ⟨w.heap.size, 1, none⟩ = some (.int .i64 g.n) ∧ V.cell? ⟨w.heap.size, 2, none⟩ = some (.string g.s) ∧ V.cell? ⟨w.heap.size, 3, none⟩ = some (.string g.t) ∧ V.cell? ⟨w.heap.size, 4, none⟩ = some (.slice pg g.l.length cg) from by
    have h1 := (hv.block _ (Array.getElem?_eq_some_iff.1 n1).1).trans n1
    exact ⟨(arr_cell h1).trans rfl, (arr_cell h1).trans rfl, (arr_cell h1).trans rfl, (arr_cell h1).trans rfl, (arr_cell h1).trans rfl⟩))
  have HTC := Lib.hid (fun (V : World) (hv : Below w1.heap.size w1 V) => Lib.hid (show V.cell? ⟨w.heap.size + 1, 0, none⟩ = some (.int .i8 t.k) ∧ V.cell? ⟨w.heap.size + 1, 1, none⟩ = some (.int .i64 t.n) ∧ V.cell? ⟨w.heap.size + 1, 2, none⟩ = some (.string t.s) ∧ V.cell? ⟨w.heap.size + 1, 3, none⟩ = some (.string t.t) ∧ V.cell? ⟨w.heap.size + 1, 4, none⟩ = some (.slice pt t.l.length ct) from by
    have h1 := (hv.block _ (Array.getElem?_eq_some_iff.1 n2).1).trans n2
    exact ⟨(arr_cell h1).trans rfl, (arr_cell h1).trans rfl, (arr_cell h1).trans rfl, (arr_cell h1).trans rfl, (arr_cell h1).trans rfl⟩))
  have cW := fun (V : World) (hv : Below w1.heap.size w1 V) => wakes11_any (HL.out.under (hb1.trans (hv.mono hb1.size)))
  have cA := greatN_any HG.out
  have cG := fun (V : World) (hv : Below w1.heap.size w1 V) => great11_any (HS.out.under hv)
  have cC := fun (V : World) (hv : Below w1.heap.size w1 V) => rcheck_any (HT.out.below hv)
  have cD := fun (V : World) (hv : Below w1.heap.size w1 V) => nGuardF_any (HG.out.below hv)
  have cM := fun (V : World) (hv : Below w1.heap.size w1 V) => rmay11_any (HS.out.under hv)
  have hlt1 : w.heap.size + 1 < w1.heap.size := (Array.getElem?_eq_some_iff.1 n2).1
  have HLT1 := Lib.hid hlt1
  obtain ⟨a0, a1, a2, a3, a4⟩ := (HGC.out _ (Below.refl _ _)).out
  clear n1 n2 hlt1
  generalize decide (8192 ≤ g.sz 8192) = ga at cA
  cases ga
  case' true =>
    go_wp2_with (first
      | (go_at_call 11; refine cA.mono ?_; rintro e w2 ⟨rfl, hb2⟩)
      | (go_at_call 16; refine (cW _ hb2).mono ?_; rintro e w19 ⟨rfl, hb19⟩))
    go_ret
    exact ⟨rfl, hb1.trans ((hb2.trans (hb19.mono hb2.size)).mono hb1.size)⟩
  cases hg40 : gr11 l
  case' true =>
    rw [hg40] at cG
    clear hg40
    go_wp2_with (first
      | (go_at_call 11; refine cA.mono ?_; rintro e w2 ⟨rfl, hb2⟩)
      | (go_at_call 12; refine (cG _ hb2).mono ?_; rintro e w3 ⟨rfl, hb3⟩; have hB3 := hb2.trans (hb3.mono hb2.size); obtain ⟨d0, d1, d2, d3, d4⟩ := (HTC.out _ hB3).out)
      | (go_at_call 16; refine (cW _ hB3).mono ?_; rintro e w19 ⟨rfl, hb19⟩))
    go_ret
    exact ⟨rfl, hb1.trans ((hB3.trans (hb19.mono hB3.size)).mono hb1.size)⟩
  rw [hg40] at cG
  have hlen40 := gr11_len hg40
  by_cases hc : chkT t = 0
  case' neg =>
    have hc0 : (chkT t != 0) = true := by simpa using hc
    clear hg40 hc
    go_wp2_with (first
      | (go_at_call 11; refine cA.mono ?_; rintro e w2 ⟨rfl, hb2⟩)
      | (go_at_call 12; refine (cG _ hb2).mono ?_; rintro e w3 ⟨rfl, hb3⟩; have hB3 := hb2.trans (hb3.mono hb2.size); obtain ⟨d0, d1, d2, d3, d4⟩ := (HTC.out _ hB3).out)
      | (go_at_call 13; refine (cC _ hB3).mono ?_; rintro e w4 ⟨rfl, hb4⟩; have hB4 := hB3.trans (hb4.mono hB3.size); obtain ⟨g0, g1, g2, g3, g4⟩ := (HGC.out _ hB4).out)
      | (go_at_call 16; refine (cW _ hB4).mono ?_; rintro e w19 ⟨rfl, hb19⟩))
    go_ret
    exact ⟨rfl, hb1.trans ((hB4.trans (hb19.mono hB4.size)).mono hb1.size)⟩
  rw [hc] at cC
  cases hgd : gdB g
  case' false =>
    rw [hgd] at cD
    clear hg40 hc hgd
    go_wp2_with (first
      | (go_at_call 11; refine cA.mono ?_; rintro e w2 ⟨rfl, hb2⟩)
      | (go_at_call 12; refine (cG _ hb2).mono ?_; rintro e w3 ⟨rfl, hb3⟩; have hB3 := hb2.trans (hb3.mono hb2.size); obtain ⟨d0, d1, d2, d3, d4⟩ := (HTC.out _ hB3).out)
      | (go_at_call 13; refine (cC _ hB3).mono ?_; rintro e w4 ⟨rfl, hb4⟩; have hB4 := hB3.trans (hb4.mono hB3.size); obtain ⟨g0, g1, g2, g3, g4⟩ := (HGC.out _ hB4).out)
      | (go_at_call 14; refine (cD _ hB4).mono ?_; rintro e w5 ⟨rfl, hb5⟩; have hB5 := hB4.trans (hb5.mono hB4.size))
      | (go_at_call 16; refine (cW _ hB5).mono ?_; rintro e w19 ⟨rfl, hb19⟩))
    go_ret
    exact ⟨rfl, hb1.trans ((hB5.trans (hb19.mono hB5.size)).mono hb1.size)⟩
  rw [hgd] at cD
  cases hm : gmayB l
  case' false =>
    rw [hm] at cM
    clear hg40 hc hgd hm
    go_wp2_with (first
      | (go_at_call 11; refine cA.mono ?_; rintro e w2 ⟨rfl, hb2⟩)
      | (go_at_call 12; refine (cG _ hb2).mono ?_; rintro e w3 ⟨rfl, hb3⟩; have hB3 := hb2.trans (hb3.mono hb2.size); obtain ⟨d0, d1, d2, d3, d4⟩ := (HTC.out _ hB3).out)
      | (go_at_call 13; refine (cC _ hB3).mono ?_; rintro e w4 ⟨rfl, hb4⟩; have hB4 := hB3.trans (hb4.mono hB3.size); obtain ⟨g0, g1, g2, g3, g4⟩ := (HGC.out _ hB4).out)
      | (go_at_call 14; refine (cD _ hB4).mono ?_; rintro e w5 ⟨rfl, hb5⟩; have hB5 := hB4.trans (hb5.mono hB4.size))
      | (go_at_call 15; refine (cM _ hB5).mono ?_; rintro e w6 ⟨rfl, hb6⟩; have hB6 := hB5.trans (hb6.mono hB5.size))
      | (go_at_call 16; refine (cW _ hB6).mono ?_; rintro e w19 ⟨rfl, hb19⟩))
    go_ret
    exact ⟨rfl, hb1.trans ((hB6.trans (hb19.mono hB6.size)).mono hb1.size)⟩
  rw [hm] at cM
  have HK1 := Lib.hid (fun y hy => test_kid (l := l) (y := y) hgd hm hy)
  have HK2 := Lib.hid (holds_all hgd hm)
  have HK3 := Lib.hid (turn_all hgd hm)
  have HK4 := Lib.hid (fun hh => more_all (s := s) (t := t) hgd hm hc hh)
  have hnn : g.nn ≤ 4096 := (fits_iff.1 (gd_parts hgd).1).1
  have hln : g.l.length ≤ 4096 := by have h1 := nn_len g.l; have h2 := nn_eq g; omega
  clear hg40 hc hgd hm hnn
  go_upto_region 5 with (first
    | (go_at_call 11; refine cA.mono ?_; rintro e w2 ⟨rfl, hb2⟩)
    | (go_at_call 12; refine (cG _ hb2).mono ?_; rintro e w3 ⟨rfl, hb3⟩; have hB3 := hb2.trans (hb3.mono hb2.size); obtain ⟨d0, d1, d2, d3, d4⟩ := (HTC.out _ hB3).out)
    | (go_at_call 13; refine (cC _ hB3).mono ?_; rintro e w4 ⟨rfl, hb4⟩; have hB4 := hB3.trans (hb4.mono hB3.size); obtain ⟨g0, g1, g2, g3, g4⟩ := (HGC.out _ hB4).out)
    | (go_at_call 14; refine (cD _ hB4).mono ?_; rintro e w5 ⟨rfl, hb5⟩; have hB5 := hB4.trans (hb5.mono hB4.size))
    | (go_at_call 15; refine (cM _ hB5).mono ?_; rintro e w6 ⟨rfl, hb6⟩; have hB6 := hB5.trans (hb6.mono hB5.size)))
  change Code.wp _ _ _ _ (w6.alloc (.cells #[.int .i8 4, .int .i64 0, .string ⟨#[]⟩, .string ⟨#[]⟩, .slice none 0 0] 25))
  have nT := heap_new w6 (.cells #[.int .i8 4, .int .i64 0, .string ⟨#[]⟩, .string ⟨#[]⟩, .slice none 0 0] 25)
  have hbT := alloc_below w6 (.cells #[.int .i8 4, .int .i64 0, .string ⟨#[]⟩, .string ⟨#[]⟩, .slice none 0 0] 25)
  have hB7 := hB6.trans (hbT.mono hB6.size)
  have hsz7 : w6.heap.size < (w6.alloc (.cells #[.int .i8 4, .int .i64 0, .string ⟨#[]⟩, .string ⟨#[]⟩, .slice none 0 0] 25)).heap.size := by simp
  have HG7 := Lib.hid (((HG.out.below hB6).mono (P' := fun b => b < w6.heap.size) fun b _ h => h).below hbT)
  have HS7 := Lib.hid (((HS.out.under hB6).mono (F' := fun b => b < w6.heap.size) fun b _ h => h).under hbT)
  have HT7 := Lib.hid (((HT.out.below hB6).mono (P' := fun b => b < w6.heap.size) fun b _ h => h).below hbT)
  have hb17 : w1.heap.size ≤ w6.heap.size := hB6.size
  clear cA cG cC cD cM a0 a1 a2 a3 a4 d0 d1 d2 d3 d4 g0 g1 g2 g3 g4 hbT
  generalize w6.alloc (.cells #[.int .i8 4, .int .i64 0, .string ⟨#[]⟩, .string ⟨#[]⟩, .slice none 0 0] 25) = w7 at nT hB7 hsz7 HG7 HS7 HT7 ⊢
  obtain ⟨b, hb⟩ : ∃ b, w6.heap.size = b := ⟨_, rfl⟩
  rw [hb] at nT hsz7 HG7 HS7 HT7 hb17 ⊢
  clear hb hb2 hB3 hb3 hB4 hb4 hB5 hb5 hB6 hb6
  obtain ⟨g0, g1, g2, g3, g4⟩ := (HGC.out _ hB7).out
  obtain ⟨i0, hi, hi0, hi1, hi2⟩ := info_parts infoNode
  have HNT := Lib.hid nT
  have HSZ7 := Lib.hid hsz7
  clear nT hsz7
  go_wp2_with fail
  clear g0 g1 g2 g3 g4
  go_loopw [9, 39] (fun all i wr => GeRel g l b w7 all i wr) (fun _ i _ => g.l.length - (intOf i).toNat)
  case atStart => exact ⟨0, Nat.zero_le _, rfl, rfl, _, [], HNT.out, TRow.nil .., by simp, rfl, Below.refl _ _⟩
  case round =>
    obtain ⟨k, hk, rfl, rfl, sv, L, hnr, hrow, hLm, hLk, hbr⟩ := hrel
    obtain ⟨q, cp, rfl⟩ := hrow.slice
    have hBr := hB7.trans (hbr.mono hb17)
    have hwb : w.heap.size < b := Nat.lt_of_lt_of_le (by have := HLT1.out; omega) hb17
    have HNR := Lib.hid hnr
    have HROW := Lib.hid hrow
    have HLM := Lib.hid hLm
    have HLK := Lib.hid hLk
    have hgr : TrV (fun j => j < b) wr g (.slice pg g.l.length cg) := ⟨HG7.out.wf, HG7.out.kids.keep fun j hj _ => hbr.block j hj⟩
    have HGR := Lib.hid hgr
    have HLr := Lib.hid (HL.out.under (hb1.trans (hBr.mono hb1.size)))
    have HSr := Lib.hid (HS.out.under hBr)
    clear hnr hrow hLm hLk hgr
    obtain ⟨ab, hab⟩ : ∃ ab, (g.l.take k).all (holdS l) = ab := ⟨_, rfl⟩
    rw [hab]
    have HAB := Lib.hid hab
    clear hab
    by_cases hlt : k < g.l.length
    · obtain ⟨gb, o, kv, rfl, _, hnode, hkid⟩ := HGR.out.kids.at hlt
      have cT := gTest_any HLr.out hkid HSr.out
      rw [HK1.out g.l[k] (List.getElem_mem hlt)] at cT
      obtain ⟨pk, ck, rfl⟩ := hkid.kids.slice
      obtain ⟨e0, e1, e2, e3, e4⟩ := hnode
      obtain ⟨g0, g1, g2, g3, g4⟩ := (HGC.out _ hBr).out
      have HN : Hid ((g.l.take (k + 1)).all (holdS l) = (ab && holdS l g.l[k])) := by unfold Hid; rw [List.take_succ_eq_append_getElem hlt, List.all_append, HAB.out]; simp
      clear hkid
      go_upto_region 8 with fail
      go_cut [9] (fun s9 wx => s9 = .bool ((g.l.take (k + 1)).all (holdS l)) ∧ Below wr.heap.size wr wx)
      case first =>
        cases ab
        · go_wp2_with fail
          go_meet
          exact ⟨by rw [HN.out]; rfl, Below.refl _ _⟩
        · generalize holdS l g.l[k] = hq at cT HN
          go_wp2_with (go_at_call 17; refine cT.mono ?_; rintro e w8 ⟨rfl, hb8⟩)
          go_meet
          exact ⟨by rw [HN.out]; rfl, hb8⟩
      case rest =>
      obtain ⟨rfl, hb8⟩ := hcut
      have hbc := hbr.trans (hb8.mono (Nat.le_trans (Nat.le_of_lt HSZ7.out) hbr.size))
      have hBc := hB7.trans (hbc.mono hb17)
      obtain ⟨j, hjl, htn, hj1⟩ : ∃ j, ∃ h : j < g.l.length, g.l.reverse.take (k + 1) = g.l.reverse.take k ++ [g.l[j]] ∧ (g.l.length : Int) - 1 - (k : Int) = (j : Int) := ⟨g.l.length - 1 - k, by omega, turn_next hlt, by omega⟩
      have hgc : TrV (fun j => j < b) wc g (.slice (some ⟨gb, o, none⟩) g.l.length cg) := HGR.out.below hb8
      obtain ⟨gb', o', kv, hp', hgb, hnode, hkid⟩ := hgc.kids.at hjl
      cases hp'
      obtain ⟨y, hy⟩ : ∃ y, g.l[j] = y := ⟨_, rfl⟩
      rw [hy] at hnode hkid htn
      have HTN := Lib.hid htn
      obtain ⟨p5, c5, rfl⟩ := hkid.kids.slice
      clear e0 e1 e2 e3 e4 g0 g1 g2 g3 g4 cT hy htn
      obtain ⟨e0, e1, e2, e3, e4⟩ := hnode
      obtain ⟨g0, g1, g2, g3, g4⟩ := (HGC.out _ hBc).out
      have hnr := (hb8.block _ (Array.getElem?_eq_some_iff.1 HNR.out).1).trans HNR.out
      have HNRC := Lib.hid hnr
      have t4 : wc.cell? ⟨b, 4, none⟩ = some (.slice q L.length cp) := (arr_cell hnr).trans rfl
      have hblt := (Array.getElem?_eq_some_iff.1 hnr).1
      have hrowc := HROW.out.below hb8
      have hown := hrowc.blk
      have HOWN := Lib.hid hown
      have HY5 := Lib.hid hkid
      have hal : Below wc.heap.size wc (wc.alloc (.cells (tcells (y, .slice p5 y.l.length c5)).toArray 25)).drew := below_drewN (alloc_below wc _) 1
      have hrow7 := hrowc.below hal
      have hown7 := hrow7.own
      have hb8a := (hal.block _ hblt).trans hnr
      have hlt8 := (Array.getElem?_eq_some_iff.1 hb8a).1
      have hne8 : (Value.slice q L.length cp).ownBlock ≠ some b := fun e => by have := HOWN.out _ e; omega
      have hbs : b + 1 ≤ (wc.alloc (.cells (tcells (y, .slice p5 y.l.length c5)).toArray 25)).drew.heap.size := hlt8
      have t46 : (wc.alloc (.cells #[.int .i8 y.k, .int .i64 y.n, .string y.s, .string y.t, .slice p5 y.l.length c5] 25)).drew.cell? ⟨b, 4, none⟩ = some (.slice q L.length cp) := (arr_cell hb8a).trans rfl
      have HROW7 := Lib.hid hrow7
      have hLk := HLK.out
      have hlenL : L.length ≤ 1048576 := by omega
      have hk0 : (0 : Int) ≤ (g.l.length : Int) - 1 := by omega
      have hk1 : (g.l.length : Int) - 1 ≤ 4096 := by omega
      have hjl2 : (j : Int) < g.l.length := by omega
      have hj0 : (0 : Int) ≤ j := by omega
      have hw1 : IntKind.i64.wrap ((g.l.length : Int) - 1) = (g.l.length : Int) - 1 := IntWalk.i64_in _ (by omega)
      have hw2 : IntKind.i64.wrap (j : Int) = (j : Int) := IntWalk.i64_in _ (by omega)
      have hca : ∀ j' u, (tcells (y, Value.slice p5 y.l.length c5))[j']? = some u → (wc.alloc (.cells (tcells (y, .slice p5 y.l.length c5)).toArray 25)).drew.cell? ((⟨wc.heap.size, 0, none⟩ : Addr).add j') = some u := cells_at_new wc (tcells (y, .slice p5 y.l.length c5)) 25
      have hcp : ∀ u ∈ tcells (y, Value.slice p5 y.l.length c5), u.oneCell' = true := tcells_plain (q := (y, .slice p5 y.l.length c5)) HY5.out
      have hcm : L.length + 1 ≤ maxLen := by unfold maxLen; omega
      have hcb : (L.length + 1) * 72 ≤ 140737488355328 := by omega
      have HB8A := Lib.hid hb8a
      have HAL := Lib.hid hal
      clear hnr hown hrow7 hrowc hkid hgc hLk hb8a hal
      obtain ⟨ab2, hab2⟩ : ∃ x, (g.l.take (k + 1)).all (holdS l) = x := ⟨_, rfl⟩
      rw [hab2]
      have HAB2 := Lib.hid hab2
      clear hab2
      go_upto_region 9 with fail
      go_region_law (refine step_append_own2 rfl (.tmp 53) (.tmp 64) 23 rfl (b + 1) 25 i0 _ 5 72 Tryz.underlying23 hi hi0 hi1 hi2 rfl (by decide) _ L.length (L.flatMap tcells) rfl hown7 ⟨wc.heap.size, 0, none⟩ 1 1 (tcells (y, .slice p5 y.l.length c5)) rfl rfl hca hcp hcm hcb hbs ?_; intro v8 w8 hown8 hgrow8 hnil8; obtain ⟨q8, c8, rfl⟩ := row_shape hown8; have hbk8 := (grown_block hgrow8 hlt8 hne8).trans HB8A.out; have c84 : w8.cell? ⟨b, 4, none⟩ = some (.slice q L.length cp) := (arr_cell hbk8).trans rfl; have f84 : w8.frozen? ⟨b, 4, none⟩ = false := arr_free hbk8)
      all_goals
        have hyy : TrV (fun i => ((True ∧ i < b) ∨ b < i) ∧ (Value.slice q L.length cp).ownBlock ≠ some i) (wc.alloc (.cells (tcells (y, .slice p5 y.l.length c5)).toArray 25)).drew y (.slice p5 y.l.length c5) :=
          (HY5.out.below HAL.out).mono fun i hi _ => ⟨.inl ⟨trivial, hi⟩, fun e => by have := HOWN.out _ e; omega⟩
        have hrow8 := HROW7.out.push hyy hown8 hgrow8 hnil8
        have hrow9 : TRow (fun _ => True) b b 25 (w8.setCell ⟨b, 4, none⟩ (.slice q8 (L.length + 1) c8)) (.slice q8 (L.length + 1) c8) (L ++ [(y, .slice p5 y.l.length c5)]) :=
          hrow8.keep fun i hi _ => Below.heap_setCell _ _ _ _ (by show i ≠ b; omega)
        have hB8 : Below b w7 w8 := (hbc.trans (HAL.out.mono (by omega))).grown hgrow8 (by omega) (fun i hi => by have := HOWN.out _ hi; omega)
        have HR9 := Lib.hid hrow9
        have HB9 := Lib.hid (hB8.setCell (p := ⟨b, 4, none⟩) (Nat.le_refl _) (.slice q8 (L.length + 1) c8))
        have HF9 := Lib.hid (turn_set (u := .slice q8 (L.length + 1) c8) hbk8)
        have HST9 : Hid ((L ++ [(y, Value.slice p5 y.l.length c5)]).map (·.1) = g.l.reverse.take (k + 1)) := by unfold Hid; rw [List.map_append, HLM.out, HTN.out]; rfl
        clear hyy hrow8 hrow9 hB8 hown8 hgrow8 hnil8 hbk8 c84 f84 hca hcp hown7 t46 t4 e0 e1 e2 e3 e4 g0 g1 g2 g3 g4 hw1 hw2 hj1
        go_wp2
        go_roundw
        case rel => exact ⟨k + 1, hlt, by go_num, by rw [HAB2.out], _, _, HF9.out, HR9.out, HST9.out, by rw [List.length_append, HLK.out]; rfl, HB9.out⟩
        case measure => simp [intOf]; omega
    · have hLe : L.map (·.1) = g.l.reverse := by rw [HLM.out, List.take_of_length_le (by simp; omega)]
      have hae : ab = g.l.all (holdS l) := by rw [← HAB.out, List.take_of_length_le (by omega)]
      have hnr := HNR.out
      have hLl : L.length ≤ BL := by have := HLK.out; unfold BL; omega
      have hkt := HROW.out.kids (fun _ _ => trivial) (Nat.le_succ b) hLl
      rw [hLe] at hkt
      have htt : TrV (fun _ => True) wr (turnT g) (.slice q L.length cp) := ⟨wf_small _ _ _ _ _ (by decide) (by decide) (by decide) (by decide), hkt⟩
      have HTT := Lib.hid htt
      have hLL : (turnT g).l.length = L.length := by rw [HLK.out]; show g.l.reverse.length = k; simp; omega
      have cH1 := gHolds_any HLr.out (HGR.out.mono (P' := fun _ => True) fun _ _ _ => trivial) HSr.out
      rw [HK2.out, ← hae] at cH1
      have cH2 := fun (W : World) (hW : Below wr.heap.size wr W) => gHolds_any (HLr.out.under hW) (HTT.out.below hW) (HSr.out.under hW)
      rw [HK3.out, ← hae] at cH2
      have cV := fun (W : World) (hW : Below wr.heap.size wr W) => vars_any (HGR.out.below hW)
      have HK5 : Hid (hasB (varsT g) s = false → hldS g (⟨s, t⟩ :: l) = ab) := fun h => (HK4.out h).trans hae.symm
      have HGV := Lib.hid (fun (V : World) (hv : Below wr.heap.size wr V) => (HGC.out V (hBr.trans (hv.mono hBr.size))).out)
      have HTV := Lib.hid (fun (V : World) (hv : Below wr.heap.size wr V) => (HTC.out V (hBr.trans (hv.mono hBr.size))).out)
      have HNV := Lib.hid (fun (V : World) (hv : Below wr.heap.size wr V) => (show V.cell? ⟨b, 0, none⟩ = some (.int .i8 4) ∧ V.cell? ⟨b, 1, none⟩ = some (.int .i64 0) ∧ V.cell? ⟨b, 2, none⟩ = some (.string ⟨#[]⟩) ∧ V.cell? ⟨b, 3, none⟩ = some (.string ⟨#[]⟩) ∧ V.cell? ⟨b, 4, none⟩ = some (.slice q L.length cp) from by
        have h1 := (hv.block _ (Array.getElem?_eq_some_iff.1 HNR.out).1).trans HNR.out
        exact ⟨(arr_cell h1).trans rfl, (arr_cell h1).trans rfl, (arr_cell h1).trans rfl, (arr_cell h1).trans rfl, (arr_cell h1).trans rfl⟩))
      have cW2 := fun (V : World) (hv : Below wr.heap.size wr V) => cW V (hBr.trans (hv.mono hBr.size))
      obtain ⟨g0, g1, g2, g3, g4⟩ := HGV.out _ (Below.refl _ _)
      have tok1 : True := trivial
      clear hLe hae hnr hkt htt hLL hLl HK1 HK2 HK3 HK4 cW
      cases ab
      all_goals
        cases hh : hasB (varsT g) s
        case true =>
          have HH := Lib.hid hh
          clear hh
          go_wp2_with (first
            | (go_at_call 18; have _t := tok1; refine cH1.mono ?_; rintro e w9 ⟨rfl, hb9⟩; obtain ⟨n0, n1, n2, n3, n4⟩ := HNV.out _ hb9; clear tok1)
            | (go_at_call 18; refine (cH2 _ hb9).mono ?_; rintro e w10 ⟨rfl, hb10⟩; have hB10 := hb9.trans (hb10.mono hb9.size); obtain ⟨h0, h1, h2, h3, h4⟩ := HGV.out _ hB10)
            | (go_at_call 20; refine (cV _ hB10).mono ?_; rintro e w11 ⟨v11, rfl, hs11, hb11⟩; have hB11 := hB10.trans (hb11.mono hB10.size); have cHas := has_any (s := s) hs11; rw [HH.out] at cHas; clear hs11)
            | (go_at_call 19; refine cHas.mono ?_; rintro e w12 ⟨rfl, hb12⟩; have hB12 := hB11.trans (hb12.mono hB11.size); obtain ⟨k0, k1, k2, k3, k4⟩ := HTV.out _ hB12)
            | (go_at_call 16; refine (cW2 _ hB12).mono ?_; rintro e w19 ⟨rfl, hb19⟩))
          go_ret
          exact ⟨rfl, hb1.trans ((hBr.trans ((hB12.trans (hb19.mono hB12.size)).mono hBr.size)).mono hb1.size)⟩
        have HH := Lib.hid hh
        have HHS := Lib.hid (HK5.out hh)
        clear hh HK5
        go_upto_region 16 with (first
          | (go_at_call 18; have _t := tok1; refine cH1.mono ?_; rintro e w9 ⟨rfl, hb9⟩; obtain ⟨n0, n1, n2, n3, n4⟩ := HNV.out _ hb9; clear tok1)
          | (go_at_call 18; refine (cH2 _ hb9).mono ?_; rintro e w10 ⟨rfl, hb10⟩; have hB10 := hb9.trans (hb10.mono hb9.size); obtain ⟨h0, h1, h2, h3, h4⟩ := HGV.out _ hB10)
          | (go_at_call 20; refine (cV _ hB10).mono ?_; rintro e w11 ⟨v11, rfl, hs11, hb11⟩; have hB11 := hB10.trans (hb11.mono hB10.size); have cHas := has_any (s := s) hs11; rw [HH.out] at cHas; clear hs11)
          | (go_at_call 19; refine cHas.mono ?_; rintro e w12 ⟨rfl, hb12⟩; have hB12 := hB11.trans (hb12.mono hB11.size); obtain ⟨k0, k1, k2, k3, k4⟩ := HTV.out _ hB12; have hlit := alloc_below w12 (.cells #[.string s, .int .i8 t.k, .int .i64 t.n, .string t.s, .string t.t, .slice pt t.l.length ct] 40); have hrow : BRow w12.heap.size (w12.alloc (.cells #[.string s, .int .i8 t.k, .int .i64 t.n, .string t.s, .string t.t, .slice pt t.l.length ct] 40)) (.slice (some ⟨w12.heap.size, 0, none⟩) 1 1) [((⟨s, t⟩ : Bd), .slice pt t.l.length ct)] := BRow.one (d := ⟨s, t⟩) (heap_new w12 (.cells #[.string s, .int .i8 t.k, .int .i64 t.n, .string t.s, .string t.t, .slice pt t.l.length ct] 40)) (((HT.out.below (hBr.trans (hB12.mono hBr.size))).mono (P' := fun b => b < w12.heap.size) fun b _ h => h).below hlit) (by unfold BL; omega) (Nat.le_refl _); have hsrc := ((HSr.out.under hB12).mono (F' := fun b => b < w12.heap.size) fun b _ h => h).under hlit; have hlenA : ([((⟨s, t⟩ : Bd), Value.slice pt t.l.length ct)] : List (Bd × Value)).length + l.length ≤ 1048576 := (by simp; omega); have hbase := hlit.size)
          | (at_builtin; refine wpList_append_binds rfl (.tmp 88) (.tmp 89) rfl w12.heap.size (.slice (some ⟨w12.heap.size, 0, none⟩) 1 1) [((⟨s, t⟩ : Bd), .slice pt t.l.length ct)] rfl hrow pl l.length cl l rfl hsrc hlenA hbase ?_; intro v13 w13 L13 hrow13 hm13 hb13))
        have hb1213 := hlit.trans hb13
        have hB13 := hB12.trans (hb1213.mono hB12.size)
        have hL13 : L13.length = l.length := by rw [← hm13, List.length_map]
        have hbo : Binds (fun _ => True) w13 v13 (⟨s, t⟩ :: l) := by
          have := hrow13.binds (by rw [List.length_append, hL13]; simp [BL]; omega)
          rwa [List.map_append, hm13] at this
        have cH3 := gHolds_any (HLr.out.under hB13) ((HGR.out.mono (P' := fun _ => True) fun _ _ _ => trivial).below hB13) hbo
        rw [HHS.out] at cH3
        obtain ⟨k0, k1, k2, k3, k4⟩ := HGV.out _ hB13
        clear hbo hrow13 hm13 hL13 hrow hsrc hlenA hbase
        go_wp2_with (first
          | (go_at_call 18; refine cH3.mono ?_; rintro e w14 ⟨rfl, hb14⟩; have hB14 := hB13.trans (hb14.mono hB13.size))
          | (go_at_call 16; refine (cW2 _ hB14).mono ?_; rintro e w19 ⟨rfl, hb19⟩))
        go_ret
        exact ⟨rfl, hb1.trans ((hBr.trans ((hB14.trans (hb19.mono hB14.size)).mono hBr.size)).mono hb1.size)⟩
end Go.Proofs.YtlhobpknflobgaaGreatDoor
