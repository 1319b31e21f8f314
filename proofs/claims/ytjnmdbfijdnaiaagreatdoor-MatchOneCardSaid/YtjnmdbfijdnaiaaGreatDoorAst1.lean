/-
  How great a tree is: ast.measure and its closures, size.fits. Conditions: the tree lies as 'TrV' says.
-/
import Derived.Test.YtjnmdbfijdnaiaaGreatDoorOrd2
namespace Go.Proofs.YtjnmdbfijdnaiaaGreatDoor
open Go.RowKit

theorem two_set {w : World} {b : Nat} {v v' u : Value} {T : TypeId} (h : w.heap[b]? = some (.cells #[v, v'] T (0, 0))) : (w.setCell ⟨b, 0, none⟩ u).heap[b]? = some (.cells #[u, v'] T (0, 0)) ∧ (w.setCell ⟨b, 1, none⟩ u).heap[b]? = some (.cells #[v, u] T (0, 0)) := by
  constructor <;> (simp only [World.setCell, Array.getElem?_modify, if_true, h]; rfl)
theorem two_cell {w : World} {b : Nat} {v v' : Value} {T : TypeId} (h : w.heap[b]? = some (.cells #[v, v'] T (0, 0))) : w.cell? ⟨b, 0, none⟩ = some v ∧ w.cell? ⟨b, 1, none⟩ = some v' ∧ w.frozen? ⟨b, 0, none⟩ = false ∧ w.frozen? ⟨b, 1, none⟩ = false := by
  refine ⟨?_, ?_, ?_, ?_⟩ <;> simp [World.cell?, World.frozen?, h]

set_option maxHeartbeats 2000000 in
set_option maxRecDepth 100000 in
theorem nodeC_any {F : Nat → Prop} {bn bw : Nat} (hF : ∀ k, F k → k ≠ bn) (hne : bw ≠ bn) (x : Tr) : ∀ (W : World) (g o : Nat) (sv : Value) (a : Int), NodeAt W g o x sv → g ≠ bn → TrV F W x sv →
    W.heap[bn]? = some (.cells #[.int .i64 a, .int .i64 0] 78 (0, 0)) → W.cell? ⟨bw, 0, none⟩ = some (.func (Fn.func 74) #[] #[.pointer (some ⟨bn, 0, none⟩), .pointer (some ⟨bw, 0, none⟩)]) → 0 ≤ a → a ≤ 4096 →
    Calls Tryz.prog 74 #[.pointer (some ⟨g, o, none⟩), .pointer (some ⟨bn, 0, none⟩), .pointer (some ⟨bw, 0, none⟩)] W fun e w' => e = .returned (.tuple #[]) ∧ w'.heap[bn]? = some (.cells #[.int .i64 (a + x.sz (4097 - a)), .int .i64 0] 78 (0, 0)) ∧ Turn (· = bn) W w' := by
  induction x using Tr.ind with
  | h x ih =>
    intro W g o sv a hnode hgn hx hbn hbw ha0 ha1
    obtain ⟨p, c, rfl⟩ := hx.kids.slice
    have hlen : x.l.length ≤ 2199023255552 := hx.kids.len
    have hrel0 : x.sz (4097 - a) = Tr.sz.szl x.l (4097 - a) 1 := by cases x; rfl
    have h4 := hnode.l
    obtain ⟨hcn, _, hfn, _⟩ := two_cell hbn
    have ht1 := Turn.setCell W ⟨bn, 0, none⟩ (.int .i64 (a + 1))
    have hbn1 := (two_set (u := .int .i64 (a + 1)) hbn).1
    have h41 := ht1.cell h4 hgn
    have hbw1 := ht1.cell hbw hne
    have hx1 := hx.turn ht1 hF
    have IH := Lib.hid ih
    have HR := Lib.hid hrel0
    clear ih hrel0 hx hnode hbn
    go_enter Tryz.func74, Tryz.ntmps74
    go_wp2_with fail
    generalize W.setCell ⟨bn, 0, none⟩ (.int .i64 (a + 1)) = w1 at ht1 hbn1 h41 hbw1 hx1 ⊢
    clear h4 hcn hfn hbw
    go_loopw [14] (fun i wr => ∃ k : Nat, k ≤ x.l.length ∧ i = .int .i64 k ∧ ∃ s : Int, 1 ≤ s ∧ s ≤ 4097 - a ∧ wr.heap[bn]? = some (.cells #[.int .i64 (a + s), .int .i64 0] 78 (0, 0)) ∧ Tr.sz.szl (x.l.drop k) (4097 - a) s = x.sz (4097 - a) ∧ Turn (· = bn) w1 wr) (fun i _ => x.l.length - (intOf i).toNat)
    case atStart => exact ⟨0, Nat.zero_le _, rfl, 1, by omega, by omega, hbn1, HR.out.symm, Turn.refl _ _⟩
    case round =>
      obtain ⟨k, hk, rfl, s, hs1, hs2, hbr, hrest, htr⟩ := hrel
      have htw := ht1.trans htr
      have hxr := hx1.turn htr hF
      have h4r := htr.cell h41 hgn
      have hbwr := htr.cell hbw1 hne
      by_cases hlt : k < x.l.length
      · obtain ⟨hcr, _, _, _⟩ := two_cell hbr
        by_cases hms : a + s ≤ 4096
        · obtain ⟨g2, o2, kv, rfl, hg2, hnode2, hkid⟩ := hxr.kids.at hlt
          have hg2n : g2 ≠ bn := hF g2 hg2
          have hszk := sz_bound x.l[k] (4097 - a - s) (by omega)
          have hnext := szl_take hlt (show s < 4097 - a by omega)
          have htd : Turn (· = bn) wr (wr.drewN 1) := Turn.of_below (below_drewN (Below.refl _ _) 1)
          have hbd : (wr.drewN 1).heap[bn]? = some (.cells #[.int .i64 (a + s), .int .i64 0] 78 (0, 0)) := hbr
          have cK := IH.out x.l[k] (List.getElem_mem hlt) (wr.drewN 1) g2 (o2 + k * 5) kv (a + s) (hnode2.turn htd hg2n) hg2n (hkid.turn htd hF) hbd (htd.cell hbwr hne) (by omega) (by omega)
          rw [show (4097 : Int) - (a + s) = 4097 - a - s from by omega] at cK
          generalize x.l[k] = y at *
          have HN := Lib.hid (hnext.symm.trans hrest)
          clear hnext hrest hkid hxr hnode2 hx1 hbd
          go_wp2
          go_still_tail 7, (by kernel_rfl)
          change wpList _ _ _ _ _ (wr.drewN 1)
          generalize wr.drewN 1 = w4 at htd cK ⊢
          go_wp2_with (go_at_call 74; refine cK.mono ?_; rintro e w5 ⟨rfl, hb5, ht5⟩)
          go_roundw
          case rel => exact ⟨k + 1, hlt, by go_num, s + y.sz (4097 - a - s), by omega, by omega, by rw [← Int.add_assoc]; exact hb5, HN.out, (htr.trans htd).trans ht5⟩
          case measure => simp [intOf]; omega
        · rw [szl_stop _ (by omega)] at hrest
          clear hxr hx1 HR
          have HN := Lib.hid hrest
          clear hrest
          have hms2 : 4096 < a + s := by omega
          clear hms
          go_wp2
          refine bodyPost_ret (v := .tuple #[]) (by simp [results, Tryz.results74]) rfl ?_
          exact ⟨rfl, by rw [← HN.out]; exact hbr, htw⟩
      · rw [List.drop_eq_nil_of_le (by omega), Tr.sz.szl] at hrest
        subst hrest
        clear hxr hx1
        go_wp2
        go_end0
        exact ⟨rfl, hbr, htw⟩

theorem dp_eq (x : Tr) (m : Int) : x.dp m = if 1 < m then Tr.dp.dpl x.l m 1 else 1 := by cases x; rfl
theorem dpl_top {l : List Tr} {m : Int} (hm : 1 < m) : Tr.dp.dpl l m m = m := by
  have := dpl_bound (l := l) hm m (by omega) (Int.le_refl _)
  omega
theorem max_ite (a b : Int) : (if a < b then b else a) = max a b := by split <;> omega

set_option maxHeartbeats 2000000 in
set_option maxRecDepth 100000 in
theorem sinkC_any {F : Nat → Prop} {bw : Nat} (x : Tr) : ∀ (W : World) (g o : Nat) (sv : Value) (m : Int), NodeAt W g o x sv → TrV F W x sv →
    W.cell? ⟨bw, 0, none⟩ = some (.func (Fn.func 75) #[] #[.pointer (some ⟨bw, 0, none⟩)]) → 1 ≤ m → m ≤ 65 →
    Calls Tryz.prog 75 #[.pointer (some ⟨g, o, none⟩), .int .i64 m, .pointer (some ⟨bw, 0, none⟩)] W fun e w' => e = .returned (.int .i64 (x.dp m)) ∧ ∃ n, w' = W.drewN n := by
  induction x using Tr.ind with
  | h x ih =>
    intro W g o sv m hnode hx hbw hm hm2
    obtain ⟨p, c, rfl⟩ := hx.kids.slice
    have hlen : x.l.length ≤ 2199023255552 := hx.kids.len
    have hrel0 := dp_eq x m
    have h4 := hnode.l
    have IH := Lib.hid ih
    have HR := Lib.hid hrel0
    clear ih hrel0 hnode
    go_enter Tryz.func75, Tryz.ntmps75
    go_wp2_with fail
    go_loopw [6, 13] (fun n i wr => ∃ k : Nat, k ≤ x.l.length ∧ i = .int .i64 k ∧ ∃ a : Int, n = .int .i64 a ∧ 1 ≤ a ∧ a ≤ m ∧ (if 1 < m then Tr.dp.dpl (x.l.drop k) m a else 1) = x.dp m ∧ (¬ 1 < m → a = 1) ∧ ∃ q, wr = W.drewN q) (fun _ i _ => x.l.length - (intOf i).toNat)
    case atStart => exact ⟨0, Nat.zero_le _, rfl, 1, rfl, by omega, by omega, HR.out.symm, fun _ => rfl, 0, rfl⟩
    case round =>
      obtain ⟨k, hk, rfl, a, rfl, ha1, ha2, hrest, hone, q, hwr⟩ := hrel
      have hbr : Below W.heap.size W wr := by rw [hwr]; exact below_drewN (Below.refl _ _) q
      have HW := Lib.hid hwr
      clear hwr
      have h4r := (hbr.cell (p := ⟨g, o + 4, none⟩) (cell_block h4)).trans h4
      have hbwr := (hbr.cell (p := ⟨bw, 0, none⟩) (cell_block hbw)).trans hbw
      have hxr := hx.below hbr
      have HONE := Lib.hid hone
      clear hone
      by_cases hlt : k < x.l.length
      · by_cases ham : 1 < m
        · rw [if_pos ham] at hrest
          by_cases h64 : a ≤ 64
          · obtain ⟨g2, o2, kv, rfl, _, hnode2, hkid⟩ := hxr.kids.at hlt
            have cK := fun n : Nat => IH.out x.l[k] (List.getElem_mem hlt) (wr.drewN n) g2 (o2 + k * 5) kv (m - 1) (hnode2.keep ((below_drewN (Below.refl wr.heap.size _) n).block _ hnode2.lt)) (hkid.below (below_drewN (Below.refl _ _) n)) (((below_drewN (Below.refl wr.heap.size wr) n).cell (p := ⟨bw, 0, none⟩) (cell_block hbwr)).trans hbwr) (by omega) (by omega)
            have hszk := dp_bound x.l[k] (m - 1) (by omega)
            have hnext := dpl_take (m := m) (a := a) hlt
            generalize x.l[k] = y at *
            generalize y.dp (m - 1) = z at *
            have HN := Lib.hid (hnext.symm.trans hrest)
            have CK := Lib.hid cK
            clear hnext hrest hkid hxr hx hnode2 cK h4 hbw hbr
            by_cases hmx : a < 1 + z
            all_goals
              go_upto_region 6 with fail
              go_quiet ((go_at_call 75; refine Calls.quiet_of (CK.out _)))
              go_wp2
              go_roundw
              case rel => exact ⟨k + 1, hlt, by go_num, _, rfl, by omega, by omega, by rw [if_pos ham, ← HN.out]; congr 1; omega, fun h => absurd ham h, q + nq, by rw [HW.out, World.drewN_drewN]⟩
              case measure => simp [intOf]; omega
          · obtain rfl : a = m := by omega
            rw [dpl_top ham] at hrest
            have HN := Lib.hid hrest
            have h64' : 64 < a := by omega
            clear hrest hxr hx h64 h4 hbw hbr
            go_wp2
            go_roundw
            case rel => exact ⟨k + 1, hlt, by go_num, a, rfl, by omega, by omega, by rw [if_pos ham, dpl_top ham]; exact HN.out, fun h => absurd ham h, q, HW.out⟩
            case measure => simp [intOf]; omega
        · rw [if_neg ham] at hrest
          have HN := Lib.hid hrest
          clear hrest hxr hx h4 hbw hbr
          go_wp2
          go_roundw
          case rel => exact ⟨k + 1, hlt, by go_num, a, rfl, by omega, by omega, by rw [if_neg ham]; exact HN.out, fun h => HONE.out h, q, HW.out⟩
          case measure => simp [intOf]; omega
      · rw [List.drop_eq_nil_of_le (by omega), Tr.dp.dpl] at hrest
        have hfin : a = x.dp m := by
          rw [← hrest]
          split
          · rfl
          · exact HONE.out ‹_›
        have HN := Lib.hid hfin
        clear hrest hfin hxr hx h4 hbw hbr
        go_wp2
        go_ret
        exact ⟨ret_i64 HN.out, q, HW.out⟩
end Go.Proofs.YtjnmdbfijdnaiaaGreatDoor
