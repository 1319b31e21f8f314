/-
  pleachlaw21.LinksPlay answers true. Conditions: the acts lie as 'ActsAt' says.
-/
import Derived.Test.YtjkdmdddgiomjaaPlay0
import Derived.Deep.CutBlock
namespace Go.Proofs.Ytjkdmdddgiomjaa
open Go.RowKit Go.Maps

set_option maxRecDepth 100000 in
set_option maxHeartbeats 8000000 in
theorem linksPlay_any {w : World} {v : Value} {l : List (Int × Int × Int)} (h : ActsAt w v l) (a b : Int) (ha : I64 a) (hb : I64 b) : Calls Try.prog 4 #[v, .int .i64 a, .int .i64 b] w fun e w' => e = .returned (.bool true) ∧ Below w.heap.size w w' := by
  obtain ⟨p, c, rfl, hlc, hwf, hcells⟩ := h
  by_cases hbig : 300 < l.length
  · have hbig' : (300 : Int) < l.length := by omega
    clear hcells hwf
    go_enter Try.func4, Try.ntmps4
    go_wp2_with (go_at_call 7; refine (wakes_any _).mono ?_; rintro e w9 ⟨rfl, hb9⟩)
    go_ret
    exact ⟨rfl, hb9⟩
  have HC := Lib.hid hcells
  have HWF := Lib.hid hwf
  clear hcells hwf
  go_enter Try.func4, Try.ntmps4
  go_wp2_with (first
    | (go_at_call 8; refine (new_any _).mono ?_; rintro e w1 ⟨B, bl, bp, bs, rfl, hW1, hlo, hb1⟩)
    | (go_at_call 16; refine (rnew_any _).mono ?_; rintro e w2 ⟨R, rfl, hR2, hRlo, hb2⟩))
  have hBoth : Both w B R 0 p0 [] w2 := by
    have hW := webL_new hW1
    refine ⟨_, _, _, hW.below hb2, hR2, hlo, fun j hj => ?_, hb1.trans (hb2.mono hb1.size)⟩
    rcases mem_rblk.1 hj with rfl | hj | hj
    · exact ⟨Nat.le_trans hb1.size hRlo, fun hm => by have := hW.lt hm; omega⟩
    · cases hj
    · cases hj
  clear hW1 hlo hb1 hR2 hRlo hb2
  go_loopw [32] (fun i wr => ∃ k : Nat, k ≤ l.length ∧ i = .int .i64 k ∧ Both w B R (400 * k) (after (l.take k)) (rafter (l.take k)) wr) (fun i _ => l.length - (intOf i).toNat)
  case atStart => exact ⟨0, Nat.zero_le _, rfl, hBoth⟩
  case round =>
    obtain ⟨k, hk, rfl, L, vL, vM, hWr, hRr, hLr, hRL, hbr⟩ := hrel
    clear hBoth
    by_cases hlt : k < l.length
    · obtain ⟨g, o, rfl, hg, hx⟩ := HC.out k hlt
      obtain ⟨hx0, hx1, hx2⟩ := act_cells hbr hg hx
      obtain ⟨wf1, wf2⟩ := HWF.out _ (List.getElem_mem hlt)
      have hnext := after_take hlt
      have hrnext := rafter_take hlt
      have hlast := last_take hk
      have hinv := inv_after (l.take k)
      obtain ⟨hrel, hll, hMM⟩ := rel_after l k hk
      clear hx
      obtain ⟨d, hd⟩ : ∃ d, l[k].1 = d := ⟨_, rfl⟩
      obtain ⟨x, hx⟩ : ∃ x, l[k].2.1 = x := ⟨_, rfl⟩
      obtain ⟨y, hy⟩ : ∃ y, l[k].2.2 = y := ⟨_, rfl⟩
      rw [hd] at hx0; rw [hx] at hx1 wf1; rw [hy] at hx2 wf2; rw [hd, hx, hy] at hnext hrnext
      have HNEXT := Lib.hid hnext
      have HRNEXT := Lib.hid hrnext
      clear hnext hrnext hd hx hy
      generalize after (l.take k) = q at hWr hRr hlast hinv HNEXT hrel hMM
      generalize rafter (l.take k) = ll at hRr hrel HRNEXT hll
      have hlow := hinv.low
      have HREL := Lib.hid hrel
      clear hrel
      go_upto_region 9 with fail
      obtain ⟨hWA, hbA, hszA, k0, k1, k2⟩ := act_box hWr d x y
      have hRA := hRr.below hbA
      have hnL : ¬ wr.heap.size ∈ L := fun h => by have := hWr.lt h; omega
      have hnR : ¬ wr.heap.size ∈ rblk R vL vM := fun h => by have := hRr.inW h; omega
      generalize wr.alloc (.cells #[.int .i64 d, .int .i64 x, .int .i64 y] 27) = wA at hWA hbA hszA k0 k1 k2 hRA ⊢
      go_upto_region 10 with (go_at_call 9; refine (ask_any hWA hinv (by unfold BN; omega) (by unfold BN; omega) wf1 wf2).mono ?_; rintro e w2 ⟨lv, sv, rfl, hl2, hs2, ⟨L2, hW2, hL2⟩, hT2⟩; obtain ⟨pv, nv, cv, rfl⟩ := ints_slice hl2; obtain ⟨ps, ns, cs, rfl⟩ := seen_slice hs2)
      obtain ⟨hW3, hL3, hb3, ⟨q0, q1, q2⟩, hB3, hlt3⟩ := asked_box (r := (askS d x y q).1) (lv := .slice pv nv cv) (sv := .slice ps ns cs) hbr hbA hszA hnL hLr k0 k1 k2 hW2 hL2 hT2
      unfold askedV at hW3 hb3 q0 q1 q2 hB3 hlt3
      have hsA : wA.heap.size ≤ w2.heap.size := hT2.size
      have hrltr : ∀ j ∈ rblk R vL vM, j < wr.heap.size := fun j hj => hRr.inW hj
      have hR2 : RefW w2 R ll q.M q.last vL vM := hRA.keep hT2 fun j hj => (hRL j hj).2
      have hRL3 : ∀ j ∈ rblk R vL vM, w.heap.size ≤ j ∧ ¬ j ∈ L2 := fun j hj => ⟨(hRL j hj).1, fun hm => by
        rcases hL2 j hm with h | h
        · exact (hRL j hj).2 h
        · have := hrltr j hj; omega⟩
      have hL2lt : ∀ j ∈ L2, j < w2.heap.size := fun j hj => hW2.lt hj
      have hsz2 : (w2.alloc (.cells #[.int .i64 (askS d x y q).1.n, .bool (askS d x y q).1.ok, .slice pv nv cv, .slice ps ns cs, .int .i64 (askS d x y q).1.e] 32)).heap.size = w2.heap.size + 1 := by simp
      have hb23 : Below w2.heap.size w2 (w2.alloc (.cells #[.int .i64 (askS d x y q).1.n, .bool (askS d x y q).1.ok, .slice pv nv cv, .slice ps ns cs, .int .i64 (askS d x y q).1.e] 32)) := (Below.refl _ _).alloc (Nat.le_refl _) _
      generalize w2.alloc (.cells #[.int .i64 (askS d x y q).1.n, .bool (askS d x y q).1.ok, .slice pv nv cv, .slice ps ns cs, .int .i64 (askS d x y q).1.e] 32) = w3 at hW3 hb3 q0 q1 q2 hB3 hlt3 hsz2 hb23 ⊢
      go_upto_region 11 with fail
      have hb34 : Below w3.heap.size w3 (w3.alloc (.cells #[.int .i64 0, .bool false, .slice none 0 0, .slice none 0 0, .int .i64 0] 32)) := (Below.refl _ _).alloc (Nat.le_refl _) _
      have hsz4 : (w3.alloc (.cells #[.int .i64 0, .bool false, .slice none 0 0, .slice none 0 0, .int .i64 0] 32)).heap.size = w2.heap.size + 1 + 1 := by simp [hsz2]
      have hB4 : (w3.alloc (.cells #[.int .i64 0, .bool false, .slice none 0 0, .slice none 0 0, .int .i64 0] 32)).heap[w2.heap.size + 1]? = some (.cells #[.int .i64 0, .bool false, .slice none 0 0, .slice none 0 0, .int .i64 0] 32) := by rw [← hsz2]; exact (MapKept.heap_alloc w3 _).1
      generalize w3.alloc (.cells #[.int .i64 0, .bool false, .slice none 0 0, .slice none 0 0, .int .i64 0] 32) = w4 at hb34 hsz4 hB4 ⊢
      have hPre : Pre w B R (400 * k + 400) w2.heap.size (w2.heap.size + 1) (askS d x y q) ll q.M q.last L2 vL vM (.slice pv nv cv) (.slice ps ns cs) wA.heap.size w4 := by
        have hsw := hb3.size
        have hlw : w.heap.size ≤ wr.heap.size := hbr.size
        refine ⟨hW3.below hb34, (hR2.below hb23).below hb34, hL3, hRL3, hb3.trans (hb34.mono hb3.size), blk5 ((hb34.block _ (by omega)).trans hB3), ⟨ownsRow_below (ownsRow_below hl2.1 hb23) hb34, hl2.2⟩, ⟨ownsRow_below (ownsRow_below hs2.1 hb23) hb34, hs2.2⟩, fun hm => ?_, fun hm => ?_, fun hm => ?_, by omega, by omega, by omega, fun j hj => ?_, fun hm => ?_, fun hm => ?_⟩
        · have := hrltr _ hm; omega
        · have := hrltr _ hm; omega
        · have := hL2lt _ hm; omega
        · have := hrltr j hj; omega
        · have := (ownsRow_lt hl2.1 _ hm).2.1; omega
        · have := (ownsRow_lt hs2.1 _ hm).2.1; omega
      have HWANT := Lib.hid hB4
      have hact : w4.cell? ⟨wr.heap.size, 0, none⟩ = some (.int .i64 d) ∧ w4.cell? ⟨wr.heap.size, 1, none⟩ = some (.int .i64 x) ∧ w4.cell? ⟨wr.heap.size, 2, none⟩ = some (.int .i64 y) :=
        ⟨(hb34.cell (p := ⟨wr.heap.size, 0, none⟩) (cell_lt q0)).trans q0, (hb34.cell (p := ⟨wr.heap.size, 1, none⟩) (cell_lt q1)).trans q1, (hb34.cell (p := ⟨wr.heap.size, 2, none⟩) (cell_lt q2)).trans q2⟩
      have HPRE := Lib.hid hPre
      clear hPre hb34 hB4 hB3 hW3 hR2 hRA hRL3 hL2lt hrltr hb23 hL3 hb3 q0 q1 q2 hT2 hW2 hL2 hl2 hs2 hWA hbA k0 k1 k2 hWr hRr hLr hRL hbr hx0 hx1 hx2
      obtain ⟨q0, q1, q2⟩ := hact
      go_upto_block 2 with fail
      go_cut [] (fun wx => Mid w B R (400 * k + 400) w2.heap.size (w2.heap.size + 1) (askS d x y q) (rask d x y ll) (.slice pv nv cv) (.slice ps ns cs) wx)
      case first =>
        by_cases h0 : d = 0
        · subst h0
          have cM := rlink_any HPRE.out.ref (by omega) x y
          go_wp2_with (go_at_call 17; refine cM.mono ?_; rintro e w5 ⟨rfl, hLeft⟩; have hz := (hLeft.turn.block _ HPRE.out.lt12 HPRE.out.n12).trans HWANT.out; obtain ⟨z0, z1, z2, z3, z4, zf⟩ := blk5 hz; have zf4 := zf 4)
          go_meet
          have hr := rel_link hinv HREL.out x y
          have hask : askS 0 x y q = (⟨0, false, [], [], (linkS x y q.f q.S).1⟩, { q with f := (linkS x y q.f q.S).2.1, S := (linkS x y q.f q.S).2.2 }) := rfl
          refine mid_end HPRE.out (by rw [hask]; exact hLeft) (Turn.setCell w5 ⟨w2.heap.size + 1, 4, none⟩ _) (lv := .slice none 0 0) (sv := .slice none 0 0) ?_ (by rw [hask]; exact nil_ints _) (by rw [hask]; exact nil_seen _)
          rw [hask]
          have := blk5 (set5 (u := .int .i64 (rlinkS x y ll).1) hz).2.2.2.2
          rw [hr.2] at this
          rw [hr.2]
          exact this
        by_cases h1 : d = 1
        · subst h1
          have cM := rcut_any HPRE.out.ref (by omega) x y
          rw [(rel_cut HREL.out x y).2] at cM
          go_wp2_with (go_at_call 18; refine cM.mono ?_; rintro e w5 ⟨rfl, hLeft⟩; have hz := (hLeft.turn.block _ HPRE.out.lt12 HPRE.out.n12).trans HWANT.out; obtain ⟨z0, z1, z2, z3, z4, zf⟩ := blk5 hz; have zf4 := zf 4)
          go_meet
          have hask : askS 1 x y q = (⟨0, false, [], [], (cutS x y q.f q.S).1⟩, { q with f := (cutS x y q.f q.S).2.1, S := (cutS x y q.f q.S).2.2 }) := rfl
          refine mid_end HPRE.out (by rw [hask]; exact hLeft) (Turn.setCell w5 ⟨w2.heap.size + 1, 4, none⟩ _) (lv := .slice none 0 0) (sv := .slice none 0 0) ?_ (by rw [hask]; exact nil_ints _) (by rw [hask]; exact nil_seen _)
          rw [hask]
          exact blk5 (set5 (u := .int .i64 (cutS x y q.f q.S).1) hz).2.2.2.2
        by_cases h2 : d = 2
        · subst h2
          have cM := rwatch_any HPRE.out.ref (by omega) hlow (by unfold BN; omega) x y
          go_wp2_with (go_at_call 19; refine cM.mono ?_; rintro e w5 ⟨rfl, hLeft⟩; have hz := (hLeft.turn.block _ HPRE.out.lt12 HPRE.out.n12).trans HWANT.out; obtain ⟨z0, z1, z2, z3, z4, zf⟩ := blk5 hz; have zf4 := zf 4; have zf0 := zf 0)
          go_meet
          have hask : askS 2 x y q = (⟨(watchS q.M q.last x y).1, false, [], [], (watchS q.M q.last x y).2.1⟩, { q with M := (watchS q.M q.last x y).2.2.1, last := (watchS q.M q.last x y).2.2.2 }) := rfl
          refine mid_end HPRE.out (by rw [hask]; exact hLeft) ((Turn.setCell w5 ⟨w2.heap.size + 1, 0, none⟩ _).trans (Turn.setCell _ ⟨w2.heap.size + 1, 4, none⟩ _)) (lv := .slice none 0 0) (sv := .slice none 0 0) ?_ (by rw [hask]; exact nil_ints _) (by rw [hask]; exact nil_seen _)
          rw [hask]
          exact blk5 (set5 (set5 hz).1).2.2.2.2
        by_cases h3 : d = 3
        · subst h3
          have cM := rleave_any HPRE.out.ref (by omega) x
          rw [leave_same] at cM
          go_wp2_with (go_at_call 20; refine cM.mono ?_; rintro e w5 ⟨rfl, hLeft⟩; have hz := (hLeft.turn.block _ HPRE.out.lt12 HPRE.out.n12).trans HWANT.out; obtain ⟨z0, z1, z2, z3, z4, zf⟩ := blk5 hz; have zf4 := zf 4; have zf1 := zf 1)
          go_meet
          have hask : askS 3 x y q = (⟨0, q.M.any (fun m => m.1 == x), [], [], 0⟩, { q with M := q.M.filter fun m => m.1 != x }) := rfl
          refine mid_end HPRE.out (by rw [hask]; exact hLeft) ((Turn.setCell w5 ⟨w2.heap.size + 1, 1, none⟩ _).trans (Turn.setCell _ ⟨w2.heap.size + 1, 4, none⟩ _)) (lv := .slice none 0 0) (sv := .slice none 0 0) ?_ (by rw [hask]; exact nil_ints _) (by rw [hask]; exact nil_seen _)
          rw [hask]
          exact blk5 (set5 (set5 hz).2.1).2.2.2.2
        by_cases h4 : d = 4
        · subst h4
          have cM := rgone_any HPRE.out.ref (by omega) (by omega) x
          by_cases hx1 : x < 1
          · have hask : askS 4 x y q = (⟨0, false, [], [], 2⟩, q) := by unfold askS; rw [if_neg (by omega), if_neg (by omega), if_neg (by omega), if_neg (by omega), if_pos rfl, if_pos hx1]
            have hras : rask 4 x y ll = ll := by unfold rask; rw [if_neg (by omega), if_neg (by omega), if_pos rfl, if_pos hx1]
            have hP : RGonePost w4 R vL vM ll q.M q.last x = RGoneAt w4 R vL vM [] [] 2 ll q.M q.last := by unfold RGonePost RGoneAt; simp only [if_pos hx1]
            rw [hP] at cM
            go_wp2_with (go_at_call 21; refine cM.mono ?_; rintro e w5 ⟨lv, sv, rfl, hlv, hsv, hLeft⟩; obtain ⟨p5, n5, c5, rfl⟩ := ints_slice hlv; obtain ⟨p6, n6, c6, rfl⟩ := seen_slice hsv; have hz := (hLeft.turn.block _ HPRE.out.lt12 HPRE.out.n12).trans HWANT.out; obtain ⟨z0, z1, z2, z3, z4, zf⟩ := blk5 hz; have zf4 := zf 4; have zf2 := zf 2; have zf3 := zf 3)
            go_meet
            have ht := ((Turn.setCell w5 ⟨w2.heap.size + 1, 2, none⟩ (.slice p5 n5 c5)).trans (Turn.setCell _ ⟨w2.heap.size + 1, 3, none⟩ (.slice p6 n6 c6))).trans (Turn.setCell _ ⟨w2.heap.size + 1, 4, none⟩ (.int .i64 2))
            have hlt12 := HPRE.out.lt12
            refine mid_end HPRE.out (by rw [hask, hras]; exact hLeft) ht (lv := .slice p5 n5 c5) (sv := .slice p6 n6 c6) ?_ (by rw [hask]; exact ints_at (ownsRow_turn hlv.1 ht fun j hj e => by have e' : j = w2.heap.size + 1 := e; omega) hlv.2) (by rw [hask]; exact (NewSeen.turn hsv ht fun j hj e => by have e' : j = w2.heap.size + 1 := e; omega).at)
            rw [hask]
            exact blk5 (set5 (set5 (set5 hz).2.2.1).2.2.2.1).2.2.2.2
          · have hask : askS 4 x y q = (⟨0, false, q.f x, q.M.filter (fun m => m.2.2 == x), 0⟩, { f := (goneF x (q.f x) (q.f, q.S)).1, S := (goneF x (q.f x) (q.f, q.S)).2, M := q.M.filter (fun m => m.2.1 != x && m.2.2 != x), last := q.last }) := by
              unfold askS; rw [if_neg (by omega), if_neg (by omega), if_neg (by omega), if_neg (by omega), if_pos rfl, if_neg hx1, gone_filter]
            have hras : rask 4 x y ll = ll.filter fun m => m.1 != x && m.2 != x := by unfold rask; rw [if_neg (by omega), if_neg (by omega), if_pos rfl, if_neg hx1]
            have hP : RGonePost w4 R vL vM ll q.M q.last x = RGoneAt w4 R vL vM (q.f x) (q.M.filter fun m => m.2.2 == x) 0 (ll.filter fun m => m.1 != x && m.2 != x) (q.M.filter fun m => m.2.1 != x && m.2.2 != x) q.last := by
              unfold RGonePost RGoneAt; simp only [if_neg hx1, links_same hinv HREL.out]
            rw [hP] at cM
            go_wp2_with (go_at_call 21; refine cM.mono ?_; rintro e w5 ⟨lv, sv, rfl, hlv, hsv, hLeft⟩; obtain ⟨p5, n5, c5, rfl⟩ := ints_slice hlv; obtain ⟨p6, n6, c6, rfl⟩ := seen_slice hsv; have hz := (hLeft.turn.block _ HPRE.out.lt12 HPRE.out.n12).trans HWANT.out; obtain ⟨z0, z1, z2, z3, z4, zf⟩ := blk5 hz; have zf4 := zf 4; have zf2 := zf 2; have zf3 := zf 3)
            go_meet
            have ht := ((Turn.setCell w5 ⟨w2.heap.size + 1, 2, none⟩ (.slice p5 n5 c5)).trans (Turn.setCell _ ⟨w2.heap.size + 1, 3, none⟩ (.slice p6 n6 c6))).trans (Turn.setCell _ ⟨w2.heap.size + 1, 4, none⟩ (.int .i64 0))
            have hlt12 := HPRE.out.lt12
            refine mid_end HPRE.out (by rw [hask, hras]; exact hLeft) ht (lv := .slice p5 n5 c5) (sv := .slice p6 n6 c6) ?_ (by rw [hask]; exact ints_at (ownsRow_turn hlv.1 ht fun j hj e => by have e' : j = w2.heap.size + 1 := e; omega) hlv.2) (by rw [hask]; exact (NewSeen.turn hsv ht fun j hj e => by have e' : j = w2.heap.size + 1 := e; omega).at)
            rw [hask]
            exact blk5 (set5 (set5 (set5 hz).2.2.1).2.2.2.1).2.2.2.2
        have hask : askS d x y q = (⟨q.last + 1, false, [], [], 0⟩, { q with last := q.last + 1 }) := by
          unfold askS; rw [if_neg h0, if_neg h1, if_neg h2, if_neg h3, if_neg h4]
        have hras : rask d x y ll = ll := by unfold rask; rw [if_neg h0, if_neg h1, if_neg h4]
        have cM := rnext_any HPRE.out.ref hlow (by unfold BN; omega)
        have e0 : (d == 0) = false := by simpa using h0
        have e1 : (d == 1) = false := by simpa using h1
        have e2 : (d == 2) = false := by simpa using h2
        have e3 : (d == 3) = false := by simpa using h3
        have e4 : (d == 4) = false := by simpa using h4
        clear h0 h1 h2 h3 h4
        have HASK := Lib.hid hask
        have HRAS := Lib.hid hras
        clear hask hras
        go_wp2_with (go_at_call 22; refine cM.mono ?_; rintro e w5 ⟨rfl, hLeft⟩; have hz := (hLeft.turn.block _ HPRE.out.lt12 HPRE.out.n12).trans HWANT.out; obtain ⟨z0, z1, z2, z3, z4, zf⟩ := blk5 hz; have zf4 := zf 4; have zf0 := zf 0)
        go_meet
        refine mid_end HPRE.out (by rw [HASK.out, HRAS.out]; exact hLeft) ((Turn.setCell w5 ⟨w2.heap.size + 1, 0, none⟩ _).trans (Turn.setCell _ ⟨w2.heap.size + 1, 4, none⟩ _)) (lv := .slice none 0 0) (sv := .slice none 0 0) ?_ (by rw [HASK.out]; exact nil_ints _) (by rw [HASK.out]; exact nil_seen _)
        rw [HASK.out]
        exact blk5 (set5 (set5 hz).1).2.2.2.2
      case rest =>
        have HREL2 := rel_ask hinv HREL.out d x y
        have HI := inv_ask hinv d x y
        have hlen := ask_len hinv d x y
        obtain ⟨⟨L', vL', vM', hWc, hRc, hLc, hRLc, hbc⟩, hG, hGl, hGs, lv, sv, hV, hVl, hVs⟩ := hcut
        obtain ⟨p5, c5, rfl⟩ := hVl.slice
        obtain ⟨p6, c6, rfl⟩ := hVs.slice
        obtain ⟨g0, g1, g2, g3, g4, _⟩ := hG
        obtain ⟨v0, v1, v2, v3, v4, _⟩ := hV
        generalize (askS d x y q).1 = r at *
        generalize (askS d x y q).2 = p' at *
        generalize rask d x y ll = ll' at *
        clear HPRE HWANT HREL
        have cI := fun W (hb : Below wc.heap.size wc W) => ints_same (hGl.below hb) (hVl.below hb) (by unfold BN; omega)
        have cS := fun W (hb : Below wc.heap.size wc W) => seen_same (hGs.below hb) (hVs.below hb) (by unfold BN; omega)
        have hBz := Below.refl wc.heap.size wc
        go_upto_region 34 with (first
          | (go_at_call 15; refine (cI _ hBz).mono ?_; rintro e w5 ⟨rfl, hb5⟩; have hBz := hBz.trans (hb5.mono hBz.size); have g3 := (hBz.cell (p := ⟨w2.heap.size, 3, none⟩) (cell_lt g3)).trans g3; have v3 := (hBz.cell (p := ⟨w2.heap.size + 1, 3, none⟩) (cell_lt v3)).trans v3)
          | (go_at_call 14; refine (cS _ hBz).mono ?_; rintro e w6 ⟨rfl, hb6⟩; have hBz := hBz.trans (hb6.mono hBz.size)))
        have hMlen : p'.M.length ≤ 500 := by rw [← HNEXT.out]; exact Nat.le_trans (rel_after l (k + 1) hlt).2.2 (by omega)
        have hllen : ll'.length ≤ 500 := by rw [← HRNEXT.out]; exact Nat.le_trans (rel_after l (k + 1) hlt).2.1 (by omega)
        have hplen := HI.len a
        have hWlen := hWc.len fun m => m.2.1 == a
        have hRlen := hWc.len fun m => m.2.2 == b
        have cWd := fun W (hw : Below wc.heap.size wc W) => (hWc.below hw).linked ha hb
        have cRd := fun W (hw : Below wc.heap.size wc W) => rlinked_any (hRc.below hw) (by omega) a b
        rw [any_same HREL2] at cRd
        have cWl := fun W (hw : Below wc.heap.size wc W) => (hWc.below hw).links ha (by unfold BN; omega)
        have cRl := fun W (hw : Below wc.heap.size wc W) => rlinks_any (hRc.below hw) (by omega) a
        rw [links_same HI HREL2] at cRl
        have cWw := fun W (hw : Below wc.heap.size wc W) => (hWc.below hw).watches (by unfold BN; omega) a
        have cRw := fun W (hw : Below wc.heap.size wc W) => rwatches_any (hRc.below hw) (by unfold BN; omega) a
        have cWr := fun W (hw : Below wc.heap.size wc W) => (hWc.below hw).watchers (by unfold BN; omega) b
        have cRr := fun W (hw : Below wc.heap.size wc W) => rwatchers_any (hRc.below hw) (by unfold BN; omega) b
        have cWt := fun W (hw : Below wc.heap.size wc W) => (hWc.below hw).lastC
        have cRt := fun W (hw : Below wc.heap.size wc W) => rlast_any (hRc.below hw)
        generalize p'.S (min a b) (max a b) = sab at cWd cRd
        go_wp2_with (first
          | (go_at_call 10; refine (cWd _ hBz).mono ?_; rintro e w' ⟨rfl, rfl⟩)
          | (go_at_call 23; refine (cRd _ hBz).mono ?_; rintro e w7 ⟨rfl, hb7⟩; have hBz := hBz.trans (hb7.mono hBz.size))
          | (go_at_call 11; refine (cWl _ hBz).mono ?_; rintro e w7 ⟨v7, rfl, hv7, hb7⟩; have hBz := hBz.trans (hb7.mono hBz.size))
          | (go_at_call 24; refine (cRl _ hBz).mono ?_; rintro e w8 ⟨v8, rfl, hv8, hb8⟩; have hBz := hBz.trans (hb8.mono hBz.size); have hIA := (hv7.block hb8).at)
          | (go_at_call 15; refine (ints_same hIA hv8.at (by unfold BN; omega)).mono ?_; rintro e w9 ⟨rfl, hb9⟩; have hBz := hBz.trans (hb9.mono hBz.size))
          | (go_at_call 12; refine (cWw _ hBz).mono ?_; rintro e w10 ⟨v10, rfl, hv10, hb10⟩; have hBz := hBz.trans (hb10.mono hBz.size))
          | (go_at_call 25; refine (cRw _ hBz).mono ?_; rintro e w11 ⟨v11, rfl, hv11, hb11⟩; have hBz := hBz.trans (hb11.mono hBz.size); have hSA := (hv10.block hb11).at)
          | (go_at_call 26; refine (cWr _ hBz).mono ?_; rintro e w13 ⟨v13, rfl, hv13, hb13⟩; have hBz := hBz.trans (hb13.mono hBz.size))
          | (go_at_call 27; refine (cRr _ hBz).mono ?_; rintro e w14 ⟨v14, rfl, hv14, hb14⟩; have hBz := hBz.trans (hb14.mono hBz.size); have hSB := (hv13.block hb14).at)
          | (go_at_call 14; refine (seen_same hSB hv14.at (by unfold BN; omega)).mono ?_; rintro e w15 ⟨rfl, hb15⟩; have hBz := hBz.trans (hb15.mono hBz.size))
          | (go_at_call 14; refine (seen_same hSA hv11.at (by unfold BN; omega)).mono ?_; rintro e w12 ⟨rfl, hb12⟩; have hBz := hBz.trans (hb12.mono hBz.size))
          | (go_at_call 28; refine (cWt _ hBz).mono ?_; rintro e w' ⟨rfl, rfl⟩)
          | (go_at_call 29; refine (cRt _ hBz).mono ?_; rintro e w' ⟨rfl, rfl⟩))
        go_roundw
        case rel =>
          refine ⟨k + 1, hlt, by go_num, L', vL', vM', ?_, ?_, hLc, hRLc, hbc.trans (hBz.mono hbc.size)⟩
          · rw [HNEXT.out]; exact (hWc.below hBz).mono (by omega)
          · rw [HNEXT.out, HRNEXT.out]; exact hRc.below hBz
        case measure => simp [intOf]; omega
    · go_wp2_with (go_at_call 7; refine (wakes_any _).mono ?_; rintro e w9 ⟨rfl, hb9⟩)
      go_ret
      exact ⟨rfl, hbr.trans (hb9.mono hbr.size)⟩
end Go.Proofs.Ytjkdmdddgiomjaa
