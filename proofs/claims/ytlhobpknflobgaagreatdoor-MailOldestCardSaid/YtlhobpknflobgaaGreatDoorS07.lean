/-
  How great a tree is: ast.measure and its closures, size.fits. Conditions: the tree lies as 'TrV' says.
  ast.measure, size.fits, fields.only; pleachref07.Size, Fits, bare. Conditions: the tree lies as 'TrV' says.
  The reference's limits and leaves of trees: pleachref07.Size, Fits, Name, Word, Atom, leaf. Conditions: the tree lies as 'TrV' says.
  The reference's names and words of trees: pleachref07.Name, Word, Atom. Conditions: a text is not longer than memory lets.
-/
import Derived.Test.YtlhobpknflobgaaGreatDoorS06
namespace Go.Proofs.YtlhobpknflobgaaGreatDoor
open Go.RowKit

theorem two_set {w : World} {b : Nat} {v v' u : Value} {T : TypeId} (h : w.heap[b]? = some (.cells #[v, v'] T (0, 0))) : (w.setCell ⟨b, 0, none⟩ u).heap[b]? = some (.cells #[u, v'] T (0, 0)) ∧ (w.setCell ⟨b, 1, none⟩ u).heap[b]? = some (.cells #[v, u] T (0, 0)) := by
  constructor <;> (simp only [World.setCell, Array.getElem?_modify, if_true, h]; rfl)
theorem two_cell {w : World} {b : Nat} {v v' : Value} {T : TypeId} (h : w.heap[b]? = some (.cells #[v, v'] T (0, 0))) : w.cell? ⟨b, 0, none⟩ = some v ∧ w.cell? ⟨b, 1, none⟩ = some v' ∧ w.frozen? ⟨b, 0, none⟩ = false ∧ w.frozen? ⟨b, 1, none⟩ = false := by
  refine ⟨?_, ?_, ?_, ?_⟩ <;> simp [World.cell?, World.frozen?, h]

set_option maxHeartbeats 2000000 in
set_option maxRecDepth 100000 in
theorem nodeC_any {F : Nat → Prop} {bn bw : Nat} (hF : ∀ k, F k → k ≠ bn) (hne : bw ≠ bn) (x : Tr) : ∀ (W : World) (g o : Nat) (sv : Value) (a : Int), NodeAt W g o x sv → g ≠ bn → TrV F W x sv →
    W.heap[bn]? = some (.cells #[.int .i64 a, .int .i64 0] 106 (0, 0)) → W.cell? ⟨bw, 0, none⟩ = some (.func (Fn.func 137) #[] #[.pointer (some ⟨bn, 0, none⟩), .pointer (some ⟨bw, 0, none⟩)]) → 0 ≤ a → a ≤ 4096 →
    Calls Tryz.prog 137 #[.pointer (some ⟨g, o, none⟩), .pointer (some ⟨bn, 0, none⟩), .pointer (some ⟨bw, 0, none⟩)] W fun e w' => e = .returned (.tuple #[]) ∧ w'.heap[bn]? = some (.cells #[.int .i64 (a + x.sz (4097 - a)), .int .i64 0] 106 (0, 0)) ∧ Turn (· = bn) W w' := by
  induction x using Tr.ind with
  | h x ih =>
    intro W g o sv a hnode hgn hx hbn hbw ha0 ha1
    obtain ⟨p, c, rfl⟩ := hx.kids.slice
    have hlen : x.l.length ≤ 2199023255552 := hx.kids.len
    have hrel0 : x.sz (4097 - a) = Tr.sz.szl x.l (4097 - a) 1 := by cases x; rfl
    have h4 := hnode.l
    obtain ⟨hcn, _, hfn, _⟩ := two_cell hbn
    have ht1 := Turn.setCell W ⟨bn, 0, none⟩ (.int .i64 (a + 1))
    have hbn1 := (two_set (u := .int .i64 (a + 1)) hbn).1
    have h41 := ht1.cell h4 hgn
    have hbw1 := ht1.cell hbw hne
    have hx1 := hx.turn ht1 hF
    have IH := Lib.hid ih
    have HR := Lib.hid hrel0
    clear ih hrel0 hx hnode hbn
    go_enter Tryz.func137, Tryz.ntmps137
    go_wp2_with fail
    generalize W.setCell ⟨bn, 0, none⟩ (.int .i64 (a + 1)) = w1 at ht1 hbn1 h41 hbw1 hx1 ⊢
    clear h4 hcn hfn hbw
    go_loopw [14] (fun i wr => ∃ k : Nat, k ≤ x.l.length ∧ i = .int .i64 k ∧ ∃ s : Int, 1 ≤ s ∧ s ≤ 4097 - a ∧ wr.heap[bn]? = some (.cells #[.int .i64 (a + s), .int .i64 0] 106 (0, 0)) ∧ Tr.sz.szl (x.l.drop k) (4097 - a) s = x.sz (4097 - a) ∧ Turn (· = bn) w1 wr) (fun i _ => x.l.length - (intOf i).toNat)
    case atStart => exact ⟨0, Nat.zero_le _, rfl, 1, by omega, by omega, hbn1, HR.out.symm, Turn.refl _ _⟩
    case round =>
      obtain ⟨k, hk, rfl, s, hs1, hs2, hbr, hrest, htr⟩ := hrel
      have htw := ht1.trans htr
      have hxr := hx1.turn htr hF
      have h4r := htr.cell h41 hgn
      have hbwr := htr.cell hbw1 hne
      by_cases hlt : k < x.l.length
      · obtain ⟨hcr, _, _, _⟩ := two_cell hbr
        by_cases hms : a + s ≤ 4096
        · obtain ⟨g2, o2, kv, rfl, hg2, hnode2, hkid⟩ := hxr.kids.at hlt
          have hg2n : g2 ≠ bn := hF g2 hg2
          have hszk := sz_bound x.l[k] (4097 - a - s) (by omega)
          have hnext := szl_take hlt (show s < 4097 - a by omega)
          have htd : Turn (· = bn) wr (wr.drewN 1) := Turn.of_below (below_drewN (Below.refl _ _) 1)
          have hbd : (wr.drewN 1).heap[bn]? = some (.cells #[.int .i64 (a + s), .int .i64 0] 106 (0, 0)) := hbr
          have cK := IH.out x.l[k] (List.getElem_mem hlt) (wr.drewN 1) g2 (o2 + k * 5) kv (a + s) (hnode2.turn htd hg2n) hg2n (hkid.turn htd hF) hbd (htd.cell hbwr hne) (by omega) (by omega)
          rw [show (4097 : Int) - (a + s) = 4097 - a - s from by omega] at cK
          generalize x.l[k] = y at *
          have HN := Lib.hid (hnext.symm.trans hrest)
          clear hnext hrest hkid hxr hnode2 hx1 hbd
          go_wp2
          go_still_tail 7, (by kernel_rfl)
          change wpList _ _ _ _ _ (wr.drewN 1)
          generalize wr.drewN 1 = w4 at htd cK ⊢
          go_wp2_with (go_at_call 137; refine cK.mono ?_; rintro e w5 ⟨rfl, hb5, ht5⟩)
          go_roundw
          case rel => exact ⟨k + 1, hlt, by go_num, s + y.sz (4097 - a - s), by omega, by omega, by rw [← Int.add_assoc]; exact hb5, HN.out, (htr.trans htd).trans ht5⟩
          case measure => simp [intOf]; omega
        · rw [szl_stop _ (by omega)] at hrest
          clear hxr hx1 HR
          have HN := Lib.hid hrest
          clear hrest
          have hms2 : 4096 < a + s := by omega
          clear hms
          go_wp2
          refine bodyPost_ret (v := .tuple #[]) (by simp [results, Tryz.results137]) rfl ?_
          exact ⟨rfl, by rw [← HN.out]; exact hbr, htw⟩
      · rw [List.drop_eq_nil_of_le (by omega), Tr.sz.szl] at hrest
        subst hrest
        clear hxr hx1
        go_wp2
        go_end0
        exact ⟨rfl, hbr, htw⟩

theorem dp_eq (x : Tr) (m : Int) : x.dp m = if 1 < m then Tr.dp.dpl x.l m 1 else 1 := by cases x; rfl
theorem dpl_top {l : List Tr} {m : Int} (hm : 1 < m) : Tr.dp.dpl l m m = m := by
  have := dpl_bound (l := l) hm m (by omega) (Int.le_refl _)
  omega
theorem max_ite (a b : Int) : (if a < b then b else a) = max a b := by split <;> omega

set_option maxHeartbeats 2000000 in
set_option maxRecDepth 100000 in
theorem sinkC_any {F : Nat → Prop} {bw : Nat} (x : Tr) : ∀ (W : World) (g o : Nat) (sv : Value) (m : Int), NodeAt W g o x sv → TrV F W x sv →
    W.cell? ⟨bw, 0, none⟩ = some (.func (Fn.func 138) #[] #[.pointer (some ⟨bw, 0, none⟩)]) → 1 ≤ m → m ≤ 65 →
    Calls Tryz.prog 138 #[.pointer (some ⟨g, o, none⟩), .int .i64 m, .pointer (some ⟨bw, 0, none⟩)] W fun e w' => e = .returned (.int .i64 (x.dp m)) ∧ ∃ n, w' = W.drewN n := by
  induction x using Tr.ind with
  | h x ih =>
    intro W g o sv m hnode hx hbw hm hm2
    obtain ⟨p, c, rfl⟩ := hx.kids.slice
    have hlen : x.l.length ≤ 2199023255552 := hx.kids.len
    have hrel0 := dp_eq x m
    have h4 := hnode.l
    have IH := Lib.hid ih
    have HR := Lib.hid hrel0
    clear ih hrel0 hnode
    go_enter Tryz.func138, Tryz.ntmps138
    go_wp2_with fail
    go_loopw [6, 13] (fun n i wr => ∃ k : Nat, k ≤ x.l.length ∧ i = .int .i64 k ∧ ∃ a : Int, n = .int .i64 a ∧ 1 ≤ a ∧ a ≤ m ∧ (if 1 < m then Tr.dp.dpl (x.l.drop k) m a else 1) = x.dp m ∧ (¬ 1 < m → a = 1) ∧ ∃ q, wr = W.drewN q) (fun _ i _ => x.l.length - (intOf i).toNat)
    case atStart => exact ⟨0, Nat.zero_le _, rfl, 1, rfl, by omega, by omega, HR.out.symm, fun _ => rfl, 0, rfl⟩
    case round =>
      obtain ⟨k, hk, rfl, a, rfl, ha1, ha2, hrest, hone, q, hwr⟩ := hrel
      have hbr : Below W.heap.size W wr := by rw [hwr]; exact below_drewN (Below.refl _ _) q
      have HW := Lib.hid hwr
      clear hwr
      have h4r := (hbr.cell (p := ⟨g, o + 4, none⟩) (cell_block h4)).trans h4
      have hbwr := (hbr.cell (p := ⟨bw, 0, none⟩) (cell_block hbw)).trans hbw
      have hxr := hx.below hbr
      have HONE := Lib.hid hone
      clear hone
      by_cases hlt : k < x.l.length
      · by_cases ham : 1 < m
        · rw [if_pos ham] at hrest
          by_cases h64 : a ≤ 64
          · obtain ⟨g2, o2, kv, rfl, _, hnode2, hkid⟩ := hxr.kids.at hlt
            have cK := fun n : Nat => IH.out x.l[k] (List.getElem_mem hlt) (wr.drewN n) g2 (o2 + k * 5) kv (m - 1) (hnode2.keep ((below_drewN (Below.refl wr.heap.size _) n).block _ hnode2.lt)) (hkid.below (below_drewN (Below.refl _ _) n)) (((below_drewN (Below.refl wr.heap.size wr) n).cell (p := ⟨bw, 0, none⟩) (cell_block hbwr)).trans hbwr) (by omega) (by omega)
            have hszk := dp_bound x.l[k] (m - 1) (by omega)
            have hnext := dpl_take (m := m) (a := a) hlt
            generalize x.l[k] = y at *
            generalize y.dp (m - 1) = z at *
            have HN := Lib.hid (hnext.symm.trans hrest)
            have CK := Lib.hid cK
            clear hnext hrest hkid hxr hx hnode2 cK h4 hbw hbr
            by_cases hmx : a < 1 + z
            all_goals
              go_upto_region 6 with fail
              go_quiet ((go_at_call 138; refine Calls.quiet_of (CK.out _)))
              go_wp2
              go_roundw
              case rel => exact ⟨k + 1, hlt, by go_num, _, rfl, by omega, by omega, by rw [if_pos ham, ← HN.out]; congr 1; omega, fun h => absurd ham h, q + nq, by rw [HW.out, World.drewN_drewN]⟩
              case measure => simp [intOf]; omega
          · obtain rfl : a = m := by omega
            rw [dpl_top ham] at hrest
            have HN := Lib.hid hrest
            have h64' : 64 < a := by omega
            clear hrest hxr hx h64 h4 hbw hbr
            go_wp2
            go_roundw
            case rel => exact ⟨k + 1, hlt, by go_num, a, rfl, by omega, by omega, by rw [if_pos ham, dpl_top ham]; exact HN.out, fun h => absurd ham h, q, HW.out⟩
            case measure => simp [intOf]; omega
        · rw [if_neg ham] at hrest
          have HN := Lib.hid hrest
          clear hrest hxr hx h4 hbw hbr
          go_wp2
          go_roundw
          case rel => exact ⟨k + 1, hlt, by go_num, a, rfl, by omega, by omega, by rw [if_neg ham]; exact HN.out, fun h => HONE.out h, q, HW.out⟩
          case measure => simp [intOf]; omega
      · rw [List.drop_eq_nil_of_le (by omega), Tr.dp.dpl] at hrest
        have hfin : a = x.dp m := by
          rw [← hrest]
          split
          · rfl
          · exact HONE.out ‹_›
        have HN := Lib.hid hfin
        clear hrest hfin hxr hx h4 hbw hbr
        go_wp2
        go_ret
        exact ⟨ret_i64 HN.out, q, HW.out⟩
end Go.Proofs.YtlhobpknflobgaaGreatDoor
namespace Go.Proofs.YtlhobpknflobgaaGreatDoor
open Go.RowKit

set_option maxHeartbeats 2000000 in
set_option maxRecDepth 100000 in
theorem measure_any {F : Nat → Prop} {x : Tr} {w : World} {g o : Nat} {sv : Value} (hnode : NodeAt w g o x sv) (hx : TrV F w x sv) :
    Calls Tryz.prog 94 #[.pointer (some ⟨g, o, none⟩)] w fun e w' => e = .returned (.agg #[.int .i64 (x.sz 4097), .int .i64 (x.dp 65)]) ∧ Below w.heap.size w w' := by
  obtain ⟨p, c, rfl⟩ := hx.kids.slice
  have hx0 : TrV (fun k => k < w.heap.size) w x (.slice p x.l.length c) := ⟨hx.wf, hx.kids.mono fun _ _ h => h⟩
  have hg := hnode.lt
  clear hx
  go_enter Tryz.func94, Tryz.ntmps94
  go_wp2_with fail
  obtain ⟨n1, n2, n3, hb, hs⟩ := three_new w (.cells #[.int .i64 0, .int .i64 0] 106) (.cells #[.int .i64 0, .int .i64 0] 106) (.cells #[.func (Fn.func 137) #[] #[.pointer (some ⟨w.heap.size + 1, 0, none⟩), .pointer (some ⟨w.heap.size + 1 + 1, 0, none⟩)]] 137)
  generalize ((w.alloc (.cells #[.int .i64 0, .int .i64 0] 106)).alloc (.cells #[.int .i64 0, .int .i64 0] 106)).alloc (.cells #[.func (Fn.func 137) #[] #[.pointer (some ⟨w.heap.size + 1, 0, none⟩), .pointer (some ⟨w.heap.size + 1 + 1, 0, none⟩)]] 137) = w3 at n1 n2 n3 hb hs ⊢
  have hnode3 := hnode.keep (hb.block g hg)
  refine (nodeC_any (F := fun k => k < w.heap.size) (bn := w.heap.size + 1) (bw := w.heap.size + 1 + 1) (fun k hk => by omega) (by omega) x w3 g o _ 0 hnode3 (by omega) (hx0.below hb) n2 (one_cell n3) (by omega) (by omega)).mono ?_
  rintro e w5 ⟨rfl, hb5, ht5⟩
  rw [show (0 : Int) + x.sz (4097 - 0) = x.sz 4097 from by simp] at hb5
  have n15 : w5.heap[w.heap.size]? = _ := (ht5.block w.heap.size (by omega) (by omega)).trans n1
  have hx5 := (hx0.below hb).turn ht5 fun k hk => by omega
  have hnode5 := hnode3.turn ht5 (by omega)
  have hs5 := ht5.size
  have hB5 := hb.trans (ht5.below (B := w.heap.size) (by omega) fun k hk e => by omega)
  clear n1 n2 n3 hb hnode3 ht5 hx0 hnode
  go_wp2_with fail
  have hb6 := alloc_below w5 (.cells #[.func (Fn.func 138) #[] #[.pointer (some ⟨w5.heap.size, 0, none⟩)]] 138)
  have hn6 := heap_new w5 (.cells #[.func (Fn.func 138) #[] #[.pointer (some ⟨w5.heap.size, 0, none⟩)]] 138)
  refine (sinkC_any (bw := w5.heap.size) x _ g o _ 65 (hnode5.keep (hb6.block g hnode5.lt)) (hx5.below hb6) (one_cell hn6) (by omega) (by omega)).mono ?_
  rintro e w7 ⟨rfl, nq, hw7⟩
  have hb7 : Below w5.heap.size w5 w7 := by rw [hw7]; exact below_drewN hb6 nq
  have n17 : w7.heap[w.heap.size]? = _ := (hb7.block _ (by omega)).trans n15
  have n27 : w7.heap[w.heap.size + 1]? = _ := (hb7.block _ (by omega)).trans hb5
  have hB7 := hB5.trans (hb7.mono hB5.size)
  clear hw7 hb6 hn6 hb7 n15 hb5 hx5 hnode5 hs5 hs
  obtain ⟨c0, c1, f0, f1⟩ := two_cell n17
  obtain ⟨d0, d1, e0, e1⟩ := two_cell n27
  have n28 := (two_set (u := .int .i64 (x.dp 65)) n27).2
  have n18 : (w7.setCell ⟨w.heap.size + 1, 1, none⟩ (.int .i64 (x.dp 65))).heap[w.heap.size]? = _ := (Below.heap_setCell _ _ _ _ (show w.heap.size ≠ w.heap.size + 1 by omega)).trans n17
  obtain ⟨c08, c18, f08, f18⟩ := two_cell n18
  obtain ⟨d08, d18, _, _⟩ := two_cell n28
  have hB8 := hB7.setCell (p := ⟨w.heap.size + 1, 1, none⟩) (by show w.heap.size ≤ w.heap.size + 1; omega) (.int .i64 (x.dp 65))
  go_wp2_with fail
  refine bodyPost_ret (v := .agg #[.int .i64 (x.sz 4097), .int .i64 (x.dp 65)]) (by simp only [results, Tryz.results94]; go_simp) rfl ⟨rfl, ?_⟩
  exact (hB8.setCell (p := ⟨w.heap.size, 0, none⟩) (Nat.le_refl _) _).setCell (p := ⟨w.heap.size, 1, none⟩) (Nat.le_refl _) _

/-- Is a tree within the limits? -/
def fitsB (x : Tr) : Bool := decide (x.sz 4097 ≤ 4096) && decide (x.dp 65 ≤ 64)
set_option maxHeartbeats 400000 in
theorem sfits_any (w : World) (a b : Int) : Calls Tryz.prog 95 #[.agg #[.int .i64 a, .int .i64 b]] w fun e w' => e = .returned (.bool (decide (a ≤ 4096) && decide (b ≤ 64))) ∧ Below w.heap.size w w' := by
  by_cases h : a ≤ 4096
  all_goals
    go_enter Tryz.func95, Tryz.ntmps95
    go_wp2
    go_ret
    exact ⟨ret_bool (by rw [Bool.eq_iff_iff]; simp; try omega), alloc_below _ _⟩

set_option maxHeartbeats 4000000 in
set_option maxRecDepth 100000 in
theorem only_any {w : World} {g o : Nat} {x : Tr} {p : Option Addr} {c : Nat} (h : NodeAt w g o x (.slice p x.l.length c)) (n s t l : Bool) :
    Calls Tryz.prog 142 #[.agg #[.bool n, .bool s, .bool t, .bool l], .pointer (some ⟨g, o, none⟩)] w fun e w' => e = .returned (.bool (bareB x n s t l)) ∧ Below w.heap.size w w' := by
  have h1 := h.keep ((alloc_below w (.cells #[.bool n, .bool s, .bool t, .bool l] 142)).block g h.lt)
  obtain ⟨e0, e1, e2, e3, e4⟩ := h1
  clear h
  cases n <;> cases s <;> cases t <;> cases l
  all_goals
    go_enter Tryz.func142, Tryz.ntmps142
    go_wp2
    all_goals
      go_ret
      exact ⟨ret_bool (by simp [bareB, emp, *]), alloc_below _ _⟩

set_option maxHeartbeats 4000000 in
set_option maxRecDepth 100000 in
theorem rbareN_any (w : World) (x : Tr) (p : Option Addr) (c : Nat) (n s t l : Bool) :
    Calls Tryz.prog 92 #[.agg #[.int .i8 x.k, .int .i64 x.n, .string x.s, .string x.t, .slice p x.l.length c], .bool n, .bool s, .bool t, .bool l] w fun e w' => e = .returned (.bool (bareB x n s t l)) ∧ Below w.heap.size w w' := by
  obtain ⟨e0, e1, e2, e3, e4⟩ := box5 w (.int .i8 x.k) (.int .i64 x.n) (.string x.s) (.string x.t) (.slice p x.l.length c) 25
  cases n <;> cases s <;> cases t <;> cases l
  all_goals
    go_enter Tryz.func92, Tryz.ntmps92
    go_wp2
    all_goals
      go_ret
      exact ⟨ret_bool (by simp [bareB, emp, *]), alloc_below _ _⟩

end Go.Proofs.YtlhobpknflobgaaGreatDoor
namespace Go.Proofs.YtlhobpknflobgaaGreatDoor
open Go.RowKit

set_option maxHeartbeats 2000000 in
set_option maxRecDepth 100000 in
theorem nsize_any {F : Nat → Prop} {x : Tr} {w : World} {sv : Value} (hx : TrV F w x sv) :
    Calls Tryz.prog 28 #[.agg #[.int .i8 x.k, .int .i64 x.n, .string x.s, .string x.t, sv]] w fun e w' => e = .returned (.tuple #[.int .i64 (x.sz 4097), .int .i64 (x.dp 65)]) ∧ Below w.heap.size w w' := by
  obtain ⟨p, c, rfl⟩ := hx.kids.slice
  obtain ⟨hb1, hz1, hn1⟩ := node_box w 25 x.k x.n x.s x.t (.slice p x.l.length c)
  obtain ⟨a0, a1, a2, a3, a4⟩ := hn1
  simp only [Nat.zero_add] at a1 a2 a3 a4
  have hx1 := hx.below hb1
  have hsz := sz_bound x 4097 (by omega)
  have hdp := dp_bound x 65 (by omega)
  clear hx
  go_enter Tryz.func28, Tryz.ntmps28
  go_wp2_with fail
  generalize w.alloc (.cells #[.int .i8 x.k, .int .i64 x.n, .string x.s, .string x.t, .slice p x.l.length c] 25) = w1 at hb1 hz1 a0 a1 a2 a3 a4 hx1 ⊢
  have hmv : ∀ W : World, Below w1.heap.size w1 W → W.cell? ⟨w.heap.size, 0, none⟩ = some (.int .i8 x.k) ∧ W.cell? ⟨w.heap.size, 1, none⟩ = some (.int .i64 x.n) ∧ W.cell? ⟨w.heap.size, 2, none⟩ = some (.string x.s) ∧ W.cell? ⟨w.heap.size, 3, none⟩ = some (.string x.t) ∧ W.cell? ⟨w.heap.size, 4, none⟩ = some (.slice p x.l.length c) := fun W hb =>
    ⟨(hb.cell (p := ⟨w.heap.size, 0, none⟩) (cell_block a0)).trans a0, (hb.cell (p := ⟨w.heap.size, 1, none⟩) (cell_block a1)).trans a1, (hb.cell (p := ⟨w.heap.size, 2, none⟩) (cell_block a1)).trans a2, (hb.cell (p := ⟨w.heap.size, 3, none⟩) (cell_block a1)).trans a3, (hb.cell (p := ⟨w.heap.size, 4, none⟩) (cell_block a1)).trans a4⟩
  have hS0 := hmv w1 (Below.refl _ _)
  have hd : Below w1.heap.size w1 w1.drew := below_drewN (Below.refl _ _) 1
  have cN := fun W hb => nodes_any x W _ 4097 (hx1.below (w' := W) hb) (by omega) (by omega)
  have cD := fun W hb => deep_any x W _ 65 (hx1.below (w' := W) hb) (by omega) (by omega)
  clear hx1
  obtain ⟨z, hz⟩ : ∃ z, x.sz 4097 = z := ⟨_, rfl⟩
  obtain ⟨dd, hdd⟩ : ∃ dd, x.dp 65 = dd := ⟨_, rfl⟩
  rw [hz] at cN hsz
  rw [hdd] at cD hdp
  have HZ := Lib.hid hz
  have HD := Lib.hid hdd
  clear hz hdd
  go_region_held3 (fun W => W.cell? ⟨w.heap.size, 0, none⟩ = some (.int .i8 x.k) ∧ W.cell? ⟨w.heap.size, 1, none⟩ = some (.int .i64 x.n) ∧ W.cell? ⟨w.heap.size, 2, none⟩ = some (.string x.s) ∧ W.cell? ⟨w.heap.size, 3, none⟩ = some (.string x.t) ∧ W.cell? ⟨w.heap.size, 4, none⟩ = some (.slice p x.l.length c)) (first | exact hS0 | exact hS1 | exact hS2) (first
    | (go_at_call 48; refine (cN _ hd).mono ?_; rintro e w5 ⟨rfl, hb5⟩; have hB5 := hd.trans (hb5.mono hd.size); have hS1 := hmv _ hB5)
    | (go_at_call 69; refine (cD _ hB5).mono ?_; rintro e w6 ⟨rfl, hb6⟩; have hB6 := hB5.trans (hb6.mono hB5.size); have hS2 := hmv _ hB6))
  all_goals
    go_wp2
    go_ret2
    exact ⟨by rw [HZ.out, HD.out]; rfl, hb1.trans (hB6.mono hb1.size)⟩

set_option maxHeartbeats 1000000 in
set_option maxRecDepth 100000 in
theorem nfits_any {F : Nat → Prop} {x : Tr} {w : World} {sv : Value} (hx : TrV F w x sv) :
    Calls Tryz.prog 50 #[.agg #[.int .i8 x.k, .int .i64 x.n, .string x.s, .string x.t, sv]] w fun e w' => e = .returned (.bool (fitsB x)) ∧ Below w.heap.size w w' := by
  obtain ⟨p, c, rfl⟩ := hx.kids.slice
  have cS := fun W hb => nsize_any (hx.below (w' := W) hb)
  have hU : fitsB x = (decide (x.sz 4097 ≤ 4096) && decide (x.dp 65 ≤ 64)) := rfl
  have HU := Lib.hid hU
  clear hx hU
  by_cases h : x.sz 4097 ≤ 4096
  all_goals
    go_enter Tryz.func50, Tryz.ntmps50
    go_wp2_with (go_at_call 28; refine (cS _ (alloc_below _ _)).mono ?_; rintro e w2 ⟨rfl, hb2⟩)
    go_ret
    exact ⟨ret_bool (by rw [HU.out, Bool.eq_iff_iff]; simp; try omega), (alloc_below _ _).trans (hb2.mono (by simp))⟩
end Go.Proofs.YtlhobpknflobgaaGreatDoor
namespace Go.Proofs.YtlhobpknflobgaaGreatDoor
open Go.RowKit

theorem byte_cases (c : Int) : c < 48 ∨ (48 ≤ c ∧ c ≤ 57) ∨ (57 < c ∧ c < 65) ∨ (65 ≤ c ∧ c ≤ 90) ∨ (90 < c ∧ c < 95) ∨ c = 95 ∨ c = 96 ∨ (97 ≤ c ∧ c ≤ 122) ∨ 122 < c := by omega

set_option maxHeartbeats 4000000 in
set_option maxRecDepth 100000 in
theorem nname_any (w : World) (s : ByteArray) (hs : s.size ≤ 140737488355328) :
    Calls Tryz.prog 29 #[.string s] w fun e w' => e = .returned (.bool (nameA s)) ∧ w = w' := by
  have HNI := Lib.hid (nameA_iff s)
  by_cases h1 : 1 ≤ s.size
  · have h0 : 0 < s.size := h1
    have hf := fb_eq h0
    have HF := Lib.hid hf
    by_cases h2 : s.size ≤ 32
    · by_cases hok : fb s = 95 ∨ (65 ≤ fb s ∧ fb s ≤ 90)
      · have HOK := Lib.hid hok
        have hname : pfx s = s.size → nameA s = true := fun h => HNI.out.2 ⟨⟨h1, h2, h⟩, by have := HOK.out; omega⟩
        have hnot : pfx s ≠ s.size → nameA s = false := fun h => by
          cases hc : nameA s
          · rfl
          · exact absurd (HNI.out.1 hc).1.2.2 h
        have HY := Lib.hid hname
        have HN := Lib.hid hnot
        clear hname hnot
        rcases hok with hok | ⟨hok, hok'⟩
        case' inl =>
          have n95 : ((s[0].toNat : Int) != 95) = false := by rw [bne_eq_false_iff_eq]; omega
          clear hok hf
        case' inr =>
          have n95 : ((s[0].toNat : Int) != 95) = true := by rw [bne_iff_ne]; omega
          have k65 : 65 ≤ (s[0].toNat : Int) := by omega
          have k90 : (s[0].toNat : Int) ≤ 90 := by omega
          clear hok hok' hf
        all_goals
          go_enter Tryz.func29, Tryz.ntmps29
          go_wp2
          go_loopw [3] (fun i wr => ∃ k : Nat, k ≤ s.size ∧ i = .int .i64 k ∧ (s.data.toList.take k).all (fun c => letB c.toNat) = true ∧ w = wr) (fun i _ => s.size - (intOf i).toNat)
          case atStart => exact ⟨0, Nat.zero_le _, rfl, rfl, rfl⟩
          case round =>
            obtain ⟨k, hk, rfl, hall, rfl⟩ := hrel
            have HALL := Lib.hid hall
            clear hall
            by_cases hlt : k < s.size
            · have hyes : letB s[k].toNat = true → (s.data.toList.take (k + 1)).all (fun c => letB c.toNat) = true := fun h => all_succ hlt HALL.out h
              have hno : letB s[k].toNat = false → nameA s = false := fun h => HN.out (by rw [pfx_of hk HALL.out fun _ => h]; omega)
              have hli := letB_iff s[k].toNat
              have HLI := Lib.hid hli
              have HYES := Lib.hid hyes
              have HNO := Lib.hid hno
              clear hli hyes hno
              rcases byte_cases s[k].toNat with hb | ⟨hb, hb'⟩ | ⟨hb, hb'⟩ | ⟨hb, hb'⟩ | ⟨hb, hb'⟩ | hb | hb | ⟨hb, hb'⟩ | hb
              case inr.inr.inr.inr.inr.inl =>
                have HB := Lib.hid hb
                have hb2 : ((s[k].toNat : Int) != 95) = false := by simpa using hb
                clear hb
                go_wp2
                go_roundw
                case rel => exact ⟨k + 1, hlt, by go_num, HYES.out (HLI.out.2 (by have := HB.out; omega)), by first | rfl | trivial⟩
                case measure => simp [intOf]; omega
              case inr.inr.inr.inr.inr.inr.inl =>
                have HB := Lib.hid hb
                have hb2 : ((s[k].toNat : Int) != 95) = true := by rw [hb]; rfl
                have hb3 : 90 < (s[k].toNat : Int) := by omega
                have hb4 : (s[k].toNat : Int) < 97 := by omega
                clear hb
                go_wp2
                go_ret
                exact ⟨by rw [HNO.out (by have := HB.out; cases hc : letB s[k].toNat; rfl; rw [HLI.out] at hc; omega)]; rfl, rfl⟩
              all_goals
                have hb2 : ((s[k].toNat : Int) != 95) = true := by rw [bne_iff_ne]; omega
                first
                  | (have hy : letB s[k].toNat = true := HLI.out.2 (by omega)
                     have HYY := Lib.hid hy
                     clear hy
                     go_wp2
                     go_roundw
                     case rel => exact ⟨k + 1, hlt, by go_num, HYES.out HYY.out, by first | rfl | trivial⟩
                     case measure => simp [intOf]; omega)
                  | (have hy : letB s[k].toNat = false := by
                       cases hc : letB s[k].toNat
                       · rfl
                       · rw [HLI.out] at hc; omega
                     have HYY := Lib.hid hy
                     clear hy
                     go_wp2
                     go_ret
                     exact ⟨by rw [HNO.out HYY.out]; rfl, rfl⟩)
            · go_wp2
              go_ret
              exact ⟨by rw [HY.out (by rw [pfx_of hk HALL.out fun h => absurd h hlt]; omega)]; rfl, rfl⟩
      · have hno : nameA s = false := by
          cases hc : nameA s
          · rfl
          · have := (HNI.out.1 hc).2; omega
        have HN := Lib.hid hno
        have g95 : ((s[0].toNat : Int) != 95) = true := by rw [bne_iff_ne]; omega
        have g : (s[0].toNat : Int) < 65 ∨ 90 < (s[0].toNat : Int) := by omega
        clear hno hf hok
        rcases g with g | g
        · go_enter Tryz.func29, Tryz.ntmps29
          go_wp2
          go_ret
          exact ⟨by rw [HN.out]; rfl, rfl⟩
        · have g2 : 65 ≤ (s[0].toNat : Int) := by omega
          go_enter Tryz.func29, Tryz.ntmps29
          go_wp2
          go_ret
          exact ⟨by rw [HN.out]; rfl, rfl⟩
    · clear hf
      have h3 : 32 < s.size := by omega
      go_enter Tryz.func29, Tryz.ntmps29
      go_wp2
      go_ret
      exact ⟨ret_bool (by rw [Bool.eq_iff_iff, HNI.out]; simp; omega), rfl⟩
  · have h3 : s.size < 1 := by omega
    go_enter Tryz.func29, Tryz.ntmps29
    go_wp2
    go_ret
    exact ⟨ret_bool (by rw [Bool.eq_iff_iff, HNI.out]; simp; omega), rfl⟩
end Go.Proofs.YtlhobpknflobgaaGreatDoor
