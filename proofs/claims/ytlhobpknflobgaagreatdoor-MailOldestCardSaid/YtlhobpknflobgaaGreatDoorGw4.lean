/-
  guard.holds at a comparison; at any test. Conditions: as said.
-/
import Derived.Test.YtlhobpknflobgaaGreatDoorGw3
namespace Go.Proofs.YtlhobpknflobgaaGreatDoor
open Go.RowKit

set_option maxHeartbeats 8000000 in
set_option maxRecDepth 100000 in
theorem holds2_any {l : List Bd} {x xa xb : Tr} {F : Nat → Prop} {w : World} {g o : Nat} {sv v : Value} (hL : Letters w) (hn : NodeAt w g o x sv) (hx : TrV F w x sv) (hl : Binds F w v l) (hxl : x.l = [xa, xb]) (hk : x.k = 11) (hg : ∀ y ∈ x.l, y.grd = true) (hm : gmayB l = true) (hnn : x.nn ≤ 1048576) :
    Calls Tryz.prog 56 #[.pointer (some ⟨g, o, none⟩), v] w fun e w' => e = .returned (.bool (hold2 x.s l xa xb)) ∧ Below w.heap.size w w' := by
  obtain ⟨p1, c1, rfl⟩ := hx.kids.slice
  obtain ⟨pl, cl, rfl⟩ := hl.slice
  have hn1 := heap_new w (.cells (row10 []) 109)
  have hb1 := alloc_below w (.cells (row10 []) 109)
  have hwn := hn.keep (hb1.block _ hn.lt)
  have HNN := Lib.hid (show ∀ y ∈ x.l, y.nn ≤ 1048576 from fun y hy => by have := nn_kid hy; omega)
  have HG := Lib.hid hg
  have HM := Lib.hid hm
  have HL := Lib.hid hL
  have HB := Lib.hid (hl.mono (F' := fun g => g ≠ w.heap.size) fun g hg h => by omega)
  have HK : Hid (∀ W, Below w.heap.size w W → Kids (fun g => g ≠ w.heap.size) W (.slice p1 x.l.length c1) [xa, xb]) := by
    unfold Hid
    intro W hb
    have h1 := (hx.kids.mono (F' := fun g => g ≠ w.heap.size) fun g hg h => by omega).under hb
    rw [hxl] at h1
    rw [hxl]
    exact h1
  have HN := Lib.hid (fun W (hb : Below w.heap.size w W) => hn.keep (hb.block _ hn.lt))
  rw [hxl] at HNN HG HK
  have hk' := hwn.k
  rw [hk] at hk'
  have h4 := hwn.l
  rw [hxl] at h4
  have hks := hwn.s
  have HKK := Lib.hid hk
  have HXL := Lib.hid hxl
  simp only [hxl] at HN
  clear hn hx hl hg hm hL hnn hxl hk hwn
  go_enter Tryz.func56, Tryz.ntmps56
  go_upto_region 2 with fail
  change Code.wp _ _ _ _ (w.alloc (.cells (row10 []) 109))
  generalize w.alloc (.cells (row10 []) 109) = w1 at hn1 hb1 hk' h4 hks ⊢
  have hlt : w.heap.size < w1.heap.size := (Array.getElem?_eq_some_iff.1 hn1).1
  have HN1 := Lib.hid hn1
  have HLT := Lib.hid hlt
  clear hn1 hlt
  go_wp2_with fail
  clear hk' h4 hks
  go_loopw [15] (fun i wr => HdRel2 l xa xb w i wr) (fun i _ => 3 - (intOf i).toNat)
  case atStart => exact ⟨hb1, .inl ⟨rfl, fun q hq => by simp at hq, HN1.out⟩⟩
  case round =>
    obtain ⟨hB, hcase⟩ := hrel
    have hnd := HN.out wr hB
    have hc4 := hnd.l
    have hcs := hnd.s
    have hck := hnd.k
    rw [HKK.out] at hck
    have hkids := HK.out wr hB
    rcases hcase with ⟨rfl, _, hnr⟩ | ⟨y0, yv0, hyv, rfl, hty, hnr⟩ | ⟨y, yv, z, zv, hyv, hzv, rfl, hty, hnr⟩
    · obtain ⟨g1, o1, qv, rfl, _, hnode, hkid⟩ := hkids.at (i := 0) (by simp)
      change NodeAt wr g1 (o1 + 0 * 5) xa qv at hnode
      change TrV _ wr xa qv at hkid
      simp only [Nat.zero_mul, Nat.add_zero] at hnode
      have hwz : w.heap.size < wr.heap.size := (Array.getElem?_eq_some_iff.1 hnr).1
      have cV := gvalue_any (F := fun g => g ≠ w.heap.size) (HL.out.under hB) (fun k hk => by omega) hnode hkid (HB.out.under hB) (HG.out _ (by simp)) HM.out (HNN.out _ (by simp))
      obtain ⟨oo, hoo⟩ : ∃ oo, xa.gval l = oo := ⟨_, rfl⟩
      rw [hoo] at cV
      have HOO := Lib.hid hoo
      have HWZ := Lib.hid hwz
      have HNR := Lib.hid hnr
      clear hnode hkid hoo hwz hnr hkids hnd
      go_upto_region 7 with (first
        | (go_at_call 61; refine cV.mono ?_; rintro e w5 ⟨y, yv, ev, rfl, hy5, hb5, hc5⟩; obtain ⟨p5, c5, rfl⟩ := hy5.kids.slice; have hn5 := (hb5.block _ HWZ.out).trans HNR.out; have ht5 := there10_0 hn5 y (.slice p5 y.l.length c5); have HC5 := Lib.hid hc5; clear hc5)
        | (refine wpList_store_mid rfl 29 _ _ rfl w.heap.size 0 (cells5 y (.slice p5 y.l.length c5)) (by kernel_rfl) (by kernel_rfl) ?ha0 (size28 _ _) (by kernel_rfl) ?hb0; case ha0 => exact ht5))
      have hn6 := set10_0 (y := y) (yv := .slice p5 y.l.length c5) hn5
      have hB5 := hB.trans (hb5.mono hB.size)
      have hB6 := below_setCells (b := w.heap.size) (Nat.le_refl _) (cells5 y (.slice p5 y.l.length c5)).toList 0 hB5
      have hy6 := hy5.move (P' := fun g => g ≠ w.heap.size) (w' := w5.setCells w.heap.size 0 (cells5 y (.slice p5 y.l.length c5)).toList) (fun g hg _ => setCells_ne hg _ _ _) (fun g hg _ => hg)
      generalize w5.setCells w.heap.size 0 (cells5 y (.slice p5 y.l.length c5)).toList = w6 at hn6 hB6 hy6 ⊢
      clear ht5 hn5 hy5
      rcases HC5.out with ⟨hev, hv⟩ | ⟨⟨kk, hj⟩, hv⟩
      · subst hev
        have HV := Lib.hid (HOO.out.trans hv)
        clear hv
        go_wp2_with fail
        go_roundw
        case rel => exact ⟨hB6, .inr (.inl ⟨y, _, HV.out, rfl, fun q hq => by simp only [List.mem_singleton] at hq; subst hq; exact hy6, hn6⟩)⟩
        case measure => simp [intOf]
      · obtain ⟨bj, gj, cj, rfl, _, _, _⟩ := hj
        have HE := Lib.hid (show hold2 x.s l xa xb = false by unfold hold2; rw [HOO.out.trans hv])
        clear hv
        go_wp2_with fail
        go_ret
        exact ⟨by rw [HE.out]; rfl, hB6⟩
    · have HYV := Lib.hid hyv
      have hq := hty _ (List.mem_singleton.2 rfl)
      clear hyv hty
      obtain ⟨g1, o1, qv, rfl, _, hnode, hkid⟩ := hkids.at (i := 1) (by simp)
      change NodeAt wr g1 (o1 + 1 * 5) xb qv at hnode
      change TrV _ wr xb qv at hkid
      simp only [Nat.one_mul] at hnode
      have hwz : w.heap.size < wr.heap.size := (Array.getElem?_eq_some_iff.1 hnr).1
      have cV := gvalue_any (F := fun g => g ≠ w.heap.size) (HL.out.under hB) (fun k hk => by omega) hnode hkid (HB.out.under hB) (HG.out _ (by simp)) HM.out (HNN.out _ (by simp))
      obtain ⟨oo, hoo⟩ : ∃ oo, xb.gval l = oo := ⟨_, rfl⟩
      rw [hoo] at cV
      have HOO := Lib.hid hoo
      have HWZ := Lib.hid hwz
      have HNR := Lib.hid hnr
      clear hnode hkid hoo hwz hnr hkids hnd
      go_upto_region 7 with (first
        | (go_at_call 61; refine cV.mono ?_; rintro e w5 ⟨y, yv, ev, rfl, hy5, hb5, hc5⟩; obtain ⟨p5, c5, rfl⟩ := hy5.kids.slice; have hn5 := (hb5.block _ HWZ.out).trans HNR.out; have ht5 := there10_1 hn5 y (.slice p5 y.l.length c5); have HC5 := Lib.hid hc5; clear hc5)
        | (refine wpList_store_mid rfl 29 _ _ rfl w.heap.size 5 (cells5 y (.slice p5 y.l.length c5)) (by kernel_rfl) (by kernel_rfl) ?ha1 (size28 _ _) (by kernel_rfl) ?hb1; case ha1 => exact ht5))
      have hn6 := set10_1 (y := y) (yv := .slice p5 y.l.length c5) hn5
      have hB5 := hB.trans (hb5.mono hB.size)
      have hB6 := below_setCells (b := w.heap.size) (Nat.le_refl _) (cells5 y (.slice p5 y.l.length c5)).toList 5 hB5
      have hy6 := hy5.move (P' := fun g => g ≠ w.heap.size) (w' := w5.setCells w.heap.size 5 (cells5 y (.slice p5 y.l.length c5)).toList) (fun g hg _ => setCells_ne hg _ _ _) (fun g hg _ => hg)
      have hq6 := (hq.below hb5).move (P' := fun g => g ≠ w.heap.size) (w' := w5.setCells w.heap.size 5 (cells5 y (.slice p5 y.l.length c5)).toList) (fun g hg _ => setCells_ne hg _ _ _) (fun g hg _ => hg)
      generalize w5.setCells w.heap.size 5 (cells5 y (.slice p5 y.l.length c5)).toList = w6 at hn6 hB6 hy6 hq6 ⊢
      clear ht5 hn5 hy5
      rcases HC5.out with ⟨hev, hv⟩ | ⟨⟨kk, hj⟩, hv⟩
      · subst hev
        have HV := Lib.hid (HOO.out.trans hv)
        clear hv
        go_wp2_with fail
        go_roundw
        case rel => exact ⟨hB6, .inr (.inr ⟨y0, yv0, y, _, HYV.out, HV.out, rfl, fun q hq => by simp only [List.mem_cons, List.not_mem_nil, or_false] at hq; rcases hq with rfl | rfl; exact hq6; exact hy6, hn6⟩)⟩
        case measure => simp [intOf]
      · obtain ⟨bj, gj, cj, rfl, _, _, _⟩ := hj
        have HE := Lib.hid (show hold2 x.s l xa xb = false by unfold hold2; rw [HYV.out]; simp only [HOO.out.trans hv])
        clear hv
        go_wp2_with fail
        go_ret
        exact ⟨by rw [HE.out]; rfl, hB6⟩
    · have HYV := Lib.hid hyv
      have HZV := Lib.hid hzv
      have hqy : TrV (fun g => g ≠ w.heap.size) wr y yv := hty (y, yv) (by simp)
      have hqz : TrV (fun g => g ≠ w.heap.size) wr z zv := hty (z, zv) (by simp)
      obtain ⟨py, cy, rfl⟩ := hqy.kids.slice
      obtain ⟨pz, cz, rfl⟩ := hqz.kids.slice
      have hmv : ∀ V : World, Below wr.heap.size wr V → V.cell? ⟨g, o + 2, none⟩ = some (.string x.s) ∧ V.cell? ⟨w.heap.size, 0, none⟩ = some (.int .i8 y.k) ∧ V.cell? ⟨w.heap.size, 1, none⟩ = some (.int .i64 y.n) ∧ V.cell? ⟨w.heap.size, 2, none⟩ = some (.string y.s) ∧ V.cell? ⟨w.heap.size, 3, none⟩ = some (.string y.t) ∧ V.cell? ⟨w.heap.size, 4, none⟩ = some (.slice py y.l.length cy) ∧ V.cell? ⟨w.heap.size, 5, none⟩ = some (.int .i8 z.k) ∧ V.cell? ⟨w.heap.size, 6, none⟩ = some (.int .i64 z.n) ∧ V.cell? ⟨w.heap.size, 7, none⟩ = some (.string z.s) ∧ V.cell? ⟨w.heap.size, 8, none⟩ = some (.string z.t) ∧ V.cell? ⟨w.heap.size, 9, none⟩ = some (.slice pz z.l.length cz) := by
        intro V hv
        have hnv := (hv.block _ (Array.getElem?_eq_some_iff.1 hnr).1).trans hnr
        have f : ∀ i u, (row10 [(y, .slice py y.l.length cy), (z, .slice pz z.l.length cz)])[i]? = some u → V.cell? ⟨w.heap.size, i, none⟩ = some u := fun i u h => (arr_cell hnv).trans h
        exact ⟨(hv.cell (p := ⟨g, o + 2, none⟩) (cell_block hcs)).trans hcs, f 0 _ rfl, f 1 _ rfl, f 2 _ rfl, f 3 _ rfl, f 4 _ rfl, f 5 _ rfl, f 6 _ rfl, f 7 _ rfl, f 8 _ rfl, f 9 _ rfl⟩
      have hS0 := hmv wr (Below.refl _ _)
      have hd : Below wr.heap.size wr wr.drew := below_drewN (Below.refl _ _) 1
      have cC := compare_any (HL.out.under (hB.trans (hd.mono hB.size))) (hqy.below hd) (hqz.below hd)
      have cI := fun (V : World) => icompare_any V x.s (cmpT y z)
      have HCT := Lib.hid (show hold2 x.s l xa xb = icB x.s (cmpT y z) by unfold hold2; rw [HYV.out]; simp only [HZV.out])
      generalize cmpT y z = ct at cC cI HCT
      clear hyv hzv hty hnr hkids hnd hqy hqz
      go_upto_region 12 with fail
      refine wp_region_held_drew (S := fun V => V.cell? ⟨g, o + 2, none⟩ = some (.string x.s) ∧ V.cell? ⟨w.heap.size, 0, none⟩ = some (.int .i8 y.k) ∧ V.cell? ⟨w.heap.size, 1, none⟩ = some (.int .i64 y.n) ∧ V.cell? ⟨w.heap.size, 2, none⟩ = some (.string y.s) ∧ V.cell? ⟨w.heap.size, 3, none⟩ = some (.string y.t) ∧ V.cell? ⟨w.heap.size, 4, none⟩ = some (.slice py y.l.length cy) ∧ V.cell? ⟨w.heap.size, 5, none⟩ = some (.int .i8 z.k) ∧ V.cell? ⟨w.heap.size, 6, none⟩ = some (.int .i64 z.n) ∧ V.cell? ⟨w.heap.size, 7, none⟩ = some (.string z.s) ∧ V.cell? ⟨w.heap.size, 8, none⟩ = some (.string z.t) ∧ V.cell? ⟨w.heap.size, 9, none⟩ = some (.slice pz z.l.length cz)) (by kernel_rfl) ?_ (fun hHeld => ?_)
      · (try dsimp only); (first | exact hS0 | exact hS2 | exact hS3)
      refine wpAnyH_take (i := 0) (v := ?_) rfl (by kernel_rfl) (by kernel_rfl) (by kernel_rfl) (fun _ _ _ h => h) (Or.inl ⟨by rfl, ?_⟩) (by assumption) ?_
      rotate_left 1
      (intro w hSw; (try dsimp only at hSw); go_simp; try with_reducible rfl)
      (try simp only [List.getElem_toArray, List.getElem_cons_zero, Act.put, List.setIfInBounds_toArray, List.set_cons_zero, List.set_cons_succ])
      refine wpAnyH_take (i := 1) (v := ?_) rfl (by kernel_rfl) (by kernel_rfl) (by kernel_rfl) (fun _ _ _ h => h) (Or.inl ⟨by rfl, ?_⟩) (by assumption) ?_
      rotate_left 1
      (intro w hSw; (try dsimp only at hSw); go_simp; try with_reducible rfl)
      (try simp only [List.getElem_toArray, List.getElem_cons_succ, List.getElem_cons_zero, Act.put, List.setIfInBounds_toArray, List.set_cons_zero, List.set_cons_succ])
      refine wpAnyH_take (i := 2) (v := ?_) rfl (by kernel_rfl) (by kernel_rfl) (by kernel_rfl) (fun _ _ _ h => h) (Or.inl ⟨by rfl, ?_⟩) (by assumption) ?_
      rotate_left 1
      (intro w hSw; (try dsimp only at hSw); go_simp; try with_reducible rfl)
      (try simp only [List.getElem_toArray, List.getElem_cons_succ, List.getElem_cons_zero, Act.put, List.setIfInBounds_toArray, List.set_cons_zero, List.set_cons_succ])
      refine wpAnyH_take (i := 3) (v := ?_) rfl (by kernel_rfl) (by kernel_rfl) (by kernel_rfl) (fun _ _ _ h => h) (Or.inl ⟨by rfl, ?_⟩) (by assumption) ?_
      rotate_left 1
      (intro w hSw; (try dsimp only at hSw); go_simp; try with_reducible rfl)
      (try simp only [List.getElem_toArray, List.getElem_cons_succ, List.getElem_cons_zero, Act.put, List.setIfInBounds_toArray, List.set_cons_zero, List.set_cons_succ])
      refine wpAnyH_take (i := 4) (v := ?_) rfl (by kernel_rfl) (by kernel_rfl) (by kernel_rfl) (fun _ _ _ h => h) (Or.inl ⟨by rfl, ?_⟩) (by assumption) ?_
      rotate_left 1
      (intro w hSw; (try dsimp only at hSw); go_simp; try with_reducible rfl)
      (try simp only [List.getElem_toArray, List.getElem_cons_succ, List.getElem_cons_zero, Act.put, List.setIfInBounds_toArray, List.set_cons_zero, List.set_cons_succ])
      refine wpAnyH_take (i := 5) (v := ?_) rfl (by kernel_rfl) (by kernel_rfl) (by kernel_rfl) (fun _ _ _ h => h) (Or.inl ⟨by rfl, ?_⟩) (by assumption) ?_
      rotate_left 1
      (intro w hSw; (try dsimp only at hSw); go_simp; try with_reducible rfl)
      (try simp only [List.getElem_toArray, List.getElem_cons_succ, List.getElem_cons_zero, Act.put, List.setIfInBounds_toArray, List.set_cons_zero, List.set_cons_succ])
      refine wpAnyH_take (i := 6) (v := ?_) rfl (by kernel_rfl) (by kernel_rfl) (by kernel_rfl) (fun _ _ _ h => h) (Or.inl ⟨by rfl, ?_⟩) (by assumption) ?_
      rotate_left 1
      (intro w hSw; (try dsimp only at hSw); go_simp; try with_reducible rfl)
      (try simp only [List.getElem_toArray, List.getElem_cons_succ, List.getElem_cons_zero, Act.put, List.setIfInBounds_toArray, List.set_cons_zero, List.set_cons_succ])
      refine wpAnyH_take (i := 7) (v := ?_) rfl (by kernel_rfl) (by kernel_rfl) (by kernel_rfl) (fun _ _ _ h => h) (Or.inl ⟨by rfl, ?_⟩) (by assumption) ?_
      rotate_left 1
      (intro w hSw; (try dsimp only at hSw); go_simp; try with_reducible rfl)
      (try simp only [List.getElem_toArray, List.getElem_cons_succ, List.getElem_cons_zero, Act.put, List.setIfInBounds_toArray, List.set_cons_zero, List.set_cons_succ])
      refine wpAnyH_ready (rs := [8]) (by kernel_rfl) (by simp) ?_
      refine AllReadyH.cons rfl (fun K hK => ?_) AllReadyH.nil
      go_simp
      go_wp2_with (first | (go_at_call 102; refine cC.mono ?_; rintro e w7 ⟨rfl, hb7⟩; have hB7 := hd.trans (hb7.mono hd.size); have hS2 := hmv _ hB7) | (go_at_call 101; refine (cI _).mono ?_; rintro e w8 ⟨rfl, hb8⟩; have hB8 := hB7.trans (hb8.mono hB7.size); have hS3 := hmv _ hB8))
      refine hK.out _ _ ?_ (fun hHeld => ?_)
      · (try dsimp only); (first | exact hS0 | exact hS2 | exact hS3)
      clear hK K
      (try simp only [List.getElem_toArray, List.getElem_cons_succ, List.getElem_cons_zero, Act.put, List.setIfInBounds_toArray, List.set_cons_zero, List.set_cons_succ])
      refine wpAnyH_ready (rs := [9]) (by kernel_rfl) (by simp) ?_
      refine AllReadyH.cons rfl (fun K hK => ?_) AllReadyH.nil
      go_simp
      go_wp2_with (first | (go_at_call 102; refine cC.mono ?_; rintro e w7 ⟨rfl, hb7⟩; have hB7 := hd.trans (hb7.mono hd.size); have hS2 := hmv _ hB7) | (go_at_call 101; refine (cI _).mono ?_; rintro e w8 ⟨rfl, hb8⟩; have hB8 := hB7.trans (hb8.mono hB7.size); have hS3 := hmv _ hB8))
      refine hK.out _ _ ?_ (fun hHeld => ?_)
      · (try dsimp only); (first | exact hS0 | exact hS2 | exact hS3)
      clear hK K
      (try simp only [List.getElem_toArray, List.getElem_cons_succ, List.getElem_cons_zero, Act.put, List.setIfInBounds_toArray, List.set_cons_zero, List.set_cons_succ])
      refine wpAnyH_take (i := 10) (v := ?_) rfl (by kernel_rfl) (by kernel_rfl) (by kernel_rfl) (fun _ _ _ h => h) (Or.inl ⟨by rfl, ?_⟩) (by assumption) ?_
      rotate_left 1
      (intro w hSw; (try dsimp only at hSw); go_simp; try with_reducible rfl)
      (try simp only [List.getElem_toArray, List.getElem_cons_succ, List.getElem_cons_zero, Act.put, List.setIfInBounds_toArray, List.set_cons_zero, List.set_cons_succ])
      refine wpAnyH_take (i := 11) (v := ?_) rfl (by kernel_rfl) (by kernel_rfl) (by kernel_rfl) (fun _ _ _ h => h) (Or.inl ⟨by rfl, ?_⟩) (by assumption) ?_
      rotate_left 1
      (intro w hSw; (try dsimp only at hSw); go_simp; try with_reducible rfl)
      (try simp only [List.getElem_toArray, List.getElem_cons_succ, List.getElem_cons_zero, Act.put, List.setIfInBounds_toArray, List.set_cons_zero, List.set_cons_succ])
      refine wpAnyH_take (i := 12) (v := ?_) rfl (by kernel_rfl) (by kernel_rfl) (by kernel_rfl) (fun _ _ _ h => h) (Or.inl ⟨by rfl, ?_⟩) (by assumption) ?_
      rotate_left 1
      (intro w hSw; (try dsimp only at hSw); go_simp; try with_reducible rfl)
      (try simp only [List.getElem_toArray, List.getElem_cons_succ, List.getElem_cons_zero, Act.put, List.setIfInBounds_toArray, List.set_cons_zero, List.set_cons_succ])
      refine wpAnyH_take (i := 13) (v := ?_) rfl (by kernel_rfl) (by kernel_rfl) (by kernel_rfl) (fun _ _ _ h => h) (Or.inl ⟨by rfl, ?_⟩) (by assumption) ?_
      rotate_left 1
      (intro w hSw; (try dsimp only at hSw); go_simp; try with_reducible rfl)
      (try simp only [List.getElem_toArray, List.getElem_cons_succ, List.getElem_cons_zero, Act.put, List.setIfInBounds_toArray, List.set_cons_zero, List.set_cons_succ])
      refine wpAnyH_take (i := 14) (v := ?_) rfl (by kernel_rfl) (by kernel_rfl) (by kernel_rfl) (fun _ _ _ h => h) (Or.inl ⟨by rfl, ?_⟩) (by assumption) ?_
      rotate_left 1
      (intro w hSw; (try dsimp only at hSw); go_simp; try with_reducible rfl)
      (try simp only [List.getElem_toArray, List.getElem_cons_succ, List.getElem_cons_zero, Act.put, List.setIfInBounds_toArray, List.set_cons_zero, List.set_cons_succ])
      refine wpAnyH_done (by kernel_rfl) ?_ _
      go_wp2_with fail
      go_ret
      exact ⟨by rw [HCT.out]; rfl, hB.trans (hB8.mono hB.size)⟩


theorem tst_kinds {x : Tr} (h : tstB x = true) : (∃ xa, x.k = 12 ∧ x.l = [xa] ∧ kndS x.s = true ∧ xa.grd = true) ∨ (∃ xa xb, x.k = 11 ∧ x.l = [xa, xb] ∧ icOk x.s = true ∧ xa.grd = true ∧ xb.grd = true) := by
  unfold tstB at h
  simp only [Bool.or_eq_true, Bool.and_eq_true, beq_iff_eq] at h
  rcases h with ⟨h1, _, h2, h3, h4⟩ | ⟨h1, _, h2, h3, h4⟩
  · right
    have h3 : x.l.length = 2 := by omega
    match hl : x.l, h3 with
    | [a, b], _ =>
      rw [hl] at h4
      simp only [List.all_cons, List.all_nil, Bool.and_true, Bool.and_eq_true] at h4
      exact ⟨a, b, h1, rfl, h2, h4.1, h4.2⟩
  · left
    have h3 : x.l.length = 1 := by omega
    match hl : x.l, h3 with
    | [a], _ =>
      rw [hl] at h4
      simp only [List.all_cons, List.all_nil, Bool.and_true] at h4
      exact ⟨a, h1, rfl, h2, h4⟩
theorem holds_any {l : List Bd} {x : Tr} {F : Nat → Prop} {w : World} {g o : Nat} {sv v : Value} (hL : Letters w) (hn : NodeAt w g o x sv) (hx : TrV F w x sv) (hl : Binds F w v l) (ht : tstB x = true) (hm : gmayB l = true) (hnn : x.nn ≤ 1048576) :
    Calls Tryz.prog 56 #[.pointer (some ⟨g, o, none⟩), v] w fun e w' => e = .returned (.bool (holdS l x)) ∧ Below w.heap.size w w' := by
  rcases tst_kinds ht with ⟨xa, h1, h2, h3, h4⟩ | ⟨xa, xb, h1, h2, h3, h4, h5⟩
  · have e : holdS l x = hold1 x.s l xa := by unfold holdS; rw [if_pos h1, h2]; rfl
    rw [e]
    exact holds1_any hL hn hx hl h2 h1 h3 (fun y hy => by rw [h2] at hy; simp only [List.mem_singleton] at hy; subst hy; exact h4) hm hnn
  · have e : holdS l x = hold2 x.s l xa xb := by unfold holdS; rw [if_neg (by omega), h2]; rfl
    rw [e]
    exact holds2_any hL hn hx hl h2 h1 (fun y hy => by rw [h2] at hy; simp only [List.mem_cons, List.not_mem_nil, or_false] at hy; rcases hy with rfl | rfl; exact h4; exact h5) hm hnn
end Go.Proofs.YtlhobpknflobgaaGreatDoor
