/-
  pleachlaw21.LinksBoth answers true. Conditions: the acts lie as 'ActsAt' says.
-/
import Derived.Test.YtjkdmdddgiomjaaActs
namespace Go.Proofs.Ytjkdmdddgiomjaa
open Go.RowKit Go.Maps

def LoopAt (w : World) (B : Nat) (l : List (Int × Int × Int)) (k : Nat) (wr : World) : Prop := ∃ L, WebL wr B (400 * k) L (after (l.take k)) ∧ (∀ j ∈ L, w.heap.size ≤ j) ∧ Below w.heap.size w wr

set_option maxRecDepth 100000 in
set_option maxHeartbeats 4000000 in
theorem linksBoth_any {w : World} {v : Value} {l : List (Int × Int × Int)} (h : ActsAt w v l) (a b : Int) (ha : I64 a) (hb : I64 b) : Calls Try.prog 5 #[v, .int .i64 a, .int .i64 b] w fun e w' => e = .returned (.bool true) ∧ Below w.heap.size w w' := by
  obtain ⟨p, c, rfl, hlc, hwf, hcells⟩ := h
  by_cases hbig : 300 < l.length
  · have hbig' : (300 : Int) < l.length := by omega
    clear hcells hwf
    go_enter Try.func5, Try.ntmps5
    go_wp2_with (go_at_call 7; refine (wakes_any _).mono ?_; rintro e w9 ⟨rfl, hb9⟩)
    go_ret
    exact ⟨rfl, hb9⟩
  have HC := Lib.hid hcells
  have HWF := Lib.hid hwf
  clear hcells hwf
  go_enter Try.func5, Try.ntmps5
  go_wp2_with (go_at_call 8; refine (new_any _).mono ?_; rintro e w1 ⟨B, bl, bp, bs, rfl, hW1, hlo, hb1⟩)
  have hW1 := webL_new hW1
  go_loopw [8, 25] (fun s8 i wr => ∃ k : Nat, k ≤ l.length ∧ i = .int .i64 k ∧ s8 = .int .i64 (after (l.take k)).last ∧ LoopAt w B l k wr) (fun _ i _ => l.length - (intOf i).toNat)
  case atStart => exact ⟨0, Nat.zero_le _, rfl, rfl, _, hW1, hlo, hb1⟩
  case round =>
    obtain ⟨k, hk, rfl, rfl, L, hWr, hLr, hbr⟩ := hrel
    by_cases hlt : k < l.length
    · obtain ⟨g, o, rfl, hg, hx⟩ := HC.out k hlt
      obtain ⟨hx0, hx1, hx2⟩ := act_cells hbr hg hx
      obtain ⟨wf1, wf2⟩ := HWF.out _ (List.getElem_mem hlt)
      have hnext := after_take hlt
      have hlast := last_take hk
      have hinv := inv_after (l.take k)
      clear hx
      obtain ⟨d, hd⟩ : ∃ d, l[k].1 = d := ⟨_, rfl⟩
      obtain ⟨x, hx⟩ : ∃ x, l[k].2.1 = x := ⟨_, rfl⟩
      obtain ⟨y, hy⟩ : ∃ y, l[k].2.2 = y := ⟨_, rfl⟩
      rw [hd] at hx0; rw [hx] at hx1 wf1; rw [hy] at hx2 wf2; rw [hd, hx, hy] at hnext
      have HNEXT := Lib.hid hnext
      clear hnext hd hx hy
      obtain ⟨q, hq⟩ : ∃ q, after (l.take k) = q := ⟨_, rfl⟩
      rw [hq] at hWr hlast hinv HNEXT ⊢
      have hlow := hinv.low
      go_upto_region 10 with fail
      obtain ⟨hWA, hbA, hszA, k0, k1, k2⟩ := act_box hWr d x y
      have hnL : ¬ wr.heap.size ∈ L := fun h => by have := hWr.lt h; omega
      generalize wr.alloc (.cells #[.int .i64 d, .int .i64 x, .int .i64 y] 27) = wA at hWA hbA hszA k0 k1 k2 ⊢
      go_upto_region 11 with (go_at_call 9; refine (ask_any hWA hinv (by unfold BN; omega) (by unfold BN; omega) wf1 wf2).mono ?_; rintro e w2 ⟨lv, sv, rfl, hl2, hs2, ⟨L2, hW2, hL2⟩, hT2⟩; obtain ⟨pv, nv, cv, rfl⟩ := ints_slice hl2; obtain ⟨ps, ns, cs, rfl⟩ := seen_slice hs2)
      obtain ⟨hW3, hL3, hb3, ⟨q0, q1, q2⟩, hB3, hlt3⟩ := asked_box (r := (askS d x y q).1) (lv := .slice pv nv cv) (sv := .slice ps ns cs) hbr hbA hszA hnL hLr k0 k1 k2 hW2 hL2 hT2
      unfold askedV at hW3 hb3 q0 q1 q2 hB3 hlt3
      obtain ⟨b0, b1, b2, b3, b4, bf⟩ := blk5 hB3
      generalize w2.alloc (.cells #[.int .i64 (askS d x y q).1.n, .bool (askS d x y q).1.ok, .slice pv nv cv, .slice ps ns cs, .int .i64 (askS d x y q).1.e] 32) = w3 at hW3 hb3 q0 q1 q2 hB3 b0 b1 b2 b3 b4 bf hlt3 ⊢
      have HW3 := Lib.hid hW3
      have HL3 := Lib.hid hL3
      have HB3 := Lib.hid hb3
      clear hW3 hL3 hb3 hB3 hWA hbA hszA k0 k1 k2 hT2 hW2 hl2 hs2 hL2 hWr hLr hbr hx0 hx1 hx2 hnL hlo hb1 hW1
      go_cut [49] (fun s49 wx => s49 = .bool (counts d x y q) ∧ wx = w3)
      case first =>
        obtain ⟨t, ht⟩ : ∃ t, t = counts d x y q := ⟨_, rfl⟩
        have HT := Lib.hid ht
        clear ht
        cases h1 : (d == 2)
        · by_cases h2 : 4 < d
          · cases h4 : ((askS d x y q).1.e == 0)
            all_goals
              have hc : t = _ := HT.out.trans (by unfold counts; rw [h1, h4, decide_eq_true h2])
              have HC2 := Lib.hid hc
              clear hc
              go_wp2_with fail
              go_meet
              rw [← HT.out, HC2.out]
              exact ⟨rfl, rfl⟩
          · by_cases h3 : d < 0
            · cases h4 : ((askS d x y q).1.e == 0)
              all_goals
                have hc : t = _ := HT.out.trans (by unfold counts; rw [h1, h4, decide_eq_true h3, Bool.or_true])
                have HC2 := Lib.hid hc
                clear hc
                go_wp2_with fail
                go_meet
                rw [← HT.out, HC2.out]
                exact ⟨rfl, rfl⟩
            · have hc : t = false := HT.out.trans (by unfold counts; rw [h1, decide_eq_false h2, decide_eq_false h3]; rfl)
              have HC2 := Lib.hid hc
              clear hc
              go_wp2_with fail
              go_meet
              rw [← HT.out, HC2.out]
              exact ⟨rfl, rfl⟩
        · cases h4 : ((askS d x y q).1.e == 0)
          all_goals
            have hc : t = _ := HT.out.trans (by unfold counts; rw [h1, h4])
            have HC2 := Lib.hid hc
            clear hc
            go_wp2_with fail
            go_meet
            rw [← HT.out, HC2.out]
            exact ⟨rfl, rfl⟩
      case rest =>
      obtain ⟨rfl, rfl⟩ := hcut
      go_upto_if 49 with fail
      go_cut [8] (fun s8 wx => s8 = .int .i64 (askS d x y q).2.last ∧ wx = wc)
      case first =>
        cases hc : counts d x y q
        · have HN := Lib.hid (counts_no hc)
          go_wp2_with fail
          go_meet
          exact ⟨by rw [HN.out], rfl⟩
        · obtain ⟨hc1, hc2⟩ := counts_yes hc
          have hc3 : q.last < (askS d x y q).1.n := by rw [hc1]; exact hc2
          have HN := Lib.hid hc1
          clear hc1 hc2
          go_wp2_with fail
          go_meet
          exact ⟨by rw [HN.out], rfl⟩
      case rest =>
      obtain ⟨rfl, rfl⟩ := hcut
      go_upto_region 15 with fail
      have HI := inv_ask hinv d x y
      have hg4 := fun e => @ask_gone x y q hinv e
      go_cut [87] (fun s87 wx => s87 = .bool false ∧ Below wc.heap.size wc wx)
      case first =>
        cases h1 : (d == 4)
        · go_wp2_with fail
          go_meet
          exact ⟨rfl, Below.refl _ _⟩
        · cases h4 : ((askS d x y q).1.e == 0)
          · go_wp2_with fail
            go_meet
            exact ⟨rfl, Below.refl _ _⟩
          · obtain rfl : d = 4 := by simpa using h1
            obtain ⟨g1, g2, g3⟩ := hg4 (by simpa using h4)
            clear hg4 h1
            have cL := fun W (hb : Below wc.heap.size wc W) => (HW3.out.below hb).links wf1 (by unfold BN; omega)
            have cW := fun W (hb : Below wc.heap.size wc W) => (HW3.out.below hb).watches (by unfold BN; omega) x
            have cR := fun W (hb : Below wc.heap.size wc W) => (HW3.out.below hb).watchers (by unfold BN; omega) x
            rw [g1] at cL
            rw [g2] at cW
            rw [g3] at cR
            go_wp2_with (first
              | (go_at_call 11; refine (cL _ (Below.refl _ _)).mono ?_; rintro e w5 ⟨v5, rfl, hv5, hb5⟩; obtain rfl := ints_nil hv5; have q1 := (hb5.cell (p := ⟨wr.heap.size, 1, none⟩) (by show wr.heap.size < wc.heap.size; omega)).trans q1)
              | (go_at_call 12; refine (cW _ hb5).mono ?_; rintro e w6 ⟨v6, rfl, hv6, hb6⟩; obtain rfl := seen_none hv6; have hb6' := hb5.trans (hb6.mono hb5.size); have q1 := (hb6.cell (p := ⟨wr.heap.size, 1, none⟩) (by show wr.heap.size < _; have := hb5.size; omega)).trans q1)
              | (go_at_call 26; refine (cR _ hb6').mono ?_; rintro e w7 ⟨v7, rfl, hv7, hb7⟩; obtain rfl := seen_none hv7))
            go_meet
            exact ⟨rfl, hb6'.trans (hb7.mono hb6'.size)⟩
      case rest =>
      obtain ⟨rfl, hb4⟩ := hcut
      clear hg4
      go_upto_region 17 with fail
      have hW4 := HW3.out.below hb4
      have hB4 := HB3.out.trans (hb4.mono HB3.out.size)
      have HL4 := HL3
      clear HW3 HB3 HL3 hb4 q0 q1 q2 b0 b1 b2 b3 b4 bf hlt3
      obtain ⟨q', hq'⟩ : ∃ q', (askS d x y q).2 = q' := ⟨_, rfl⟩
      rw [hq'] at hW4 HI HNEXT ⊢
      have cAB : ∀ u v : Int, (u = a ∧ v = b ∨ u = b ∧ v = a) → Calls Try.prog 10 #[.pointer (some ⟨B, 0, none⟩), .int .i64 u, .int .i64 v] wc fun e w' => e = .returned (.bool (q'.S (min a b) (max a b))) ∧ wc = w' := by
        rintro u v (⟨rfl, rfl⟩ | ⟨rfl, rfl⟩)
        · exact hW4.linked ha hb
        · rw [Int.min_comm v u, Int.max_comm v u]; exact hW4.linked hb ha
      have cLast := hW4.lastC
      have cLinks := hW4.links ha (by unfold BN; omega)
      generalize hS : q'.S (min a b) (max a b) = sab at cAB
      go_upto_region 20 with (first
        | (go_at_call 10; refine (cAB _ _ (by first | exact .inl ⟨rfl, rfl⟩ | exact .inr ⟨rfl, rfl⟩)).mono ?_; rintro e w' ⟨rfl, rfl⟩)
        | (go_at_call 28; refine cLast.mono ?_; rintro e w' ⟨rfl, rfl⟩)
        | (go_at_call 11; refine cLinks.mono ?_; rintro e w5 ⟨v5, rfl, hv5, hb5⟩; obtain ⟨p5, c5, rfl, hc5, hx5⟩ := hv5.at))
      have hW5 := hW4.below hb5
      have hB5 := hB4.trans (hb5.mono hB4.size)
      have HX5 := Lib.hid hx5
      clear hx5 hv5
      have hlen5 : (q'.f a).length ≤ 64 := HI.len a
      have cON : ∀ n : Int, n ∈ q'.f a → ∀ u v : Int, (u = a ∧ v = n ∨ u = n ∧ v = a) → Calls Try.prog 10 #[.pointer (some ⟨B, 0, none⟩), .int .i64 u, .int .i64 v] w5 fun e w' => e = .returned (.bool true) ∧ w5 = w' := by
        intro n hn
        have hs := ((HI.sym a n).1 hn).2.2.2
        rintro u v (⟨rfl, rfl⟩ | ⟨rfl, rfl⟩)
        · rw [← hs]; exact hW5.linked ha (hW5.wf hn)
        · rw [← hs, Int.min_comm v u, Int.max_comm v u]; exact hW5.linked (hW5.wf hn) ha
      have hne : ∀ n : Int, n ∈ q'.f a → (n == a) = false := fun n hn => by
        have := ((HI.sym a n).1 hn).2.2.1
        rw [beq_eq_false_iff_ne]; exact fun h => this h.symm
      go_loopw [107] (fun i wx => ∃ j : Nat, j ≤ (q'.f a).length ∧ i = .int .i64 j ∧ wx = w5) (fun i _ => (q'.f a).length - (intOf i).toNat)
      case atStart => exact ⟨0, Nat.zero_le _, rfl, rfl⟩
      case round =>
        obtain ⟨j, hj, rfl, rfl⟩ := hrel
        by_cases hlt5 : j < (q'.f a).length
        · obtain ⟨g5, rfl, c5x⟩ := HX5.out j hlt5
          have hmem := List.getElem_mem hlt5
          have cN := cON _ hmem
          have hnn := hne _ hmem
          generalize (q'.f a)[j] = n at c5x cN hnn
          go_wp2_with (go_at_call 10; refine (cN _ _ (by first | exact .inl ⟨rfl, rfl⟩ | exact .inr ⟨rfl, rfl⟩)).mono ?_; rintro e w' ⟨rfl, rfl⟩)
          go_roundw
          case rel => exact ⟨j + 1, hlt5, by go_num, by first | rfl | trivial⟩
          case measure => simp [intOf]; omega
        · have cW := hW5.watches (by unfold BN; omega) a
          have hlen6 := hW5.len fun m => m.2.1 == a
          go_upto_region 26 with (go_at_call 12; refine cW.mono ?_; rintro e w6 ⟨v6, rfl, hv6, hb6⟩; obtain ⟨p6, c6, rfl, hc6, hx6⟩ := hv6.at)
          have hW6 := hW5.below hb6
          have hB6 := hB5.trans (hb6.mono hB5.size)
          have HX6 := Lib.hid hx6
          clear hx6 hv6 cON cAB cLast cLinks
          have hrefs : ∀ m ∈ q'.M.filter (fun m => m.2.1 == a), (m.2.1 == a) = true ∧ m.1 ≤ q'.last := fun m hm => ⟨(List.mem_filter.1 hm).2, (HI.refs m (List.mem_filter.1 hm).1).2⟩
          generalize (q'.M.filter fun m => m.2.1 == a) = ms at hlen6 hc6 HX6 hrefs ⊢
          go_loopw [133] (fun i wx => ∃ j : Nat, j ≤ ms.length ∧ i = .int .i64 j ∧ Below w6.heap.size w6 wx) (fun i _ => ms.length - (intOf i).toNat)
          case atStart => exact ⟨0, Nat.zero_le _, rfl, Below.refl _ _⟩
          case round =>
            obtain ⟨j, hj, rfl, hb7⟩ := hrel
            by_cases hlt6 : j < ms.length
            · obtain ⟨g6, rfl, c60, c61, c62⟩ := HX6.out j hlt6
              have c60 := (hb7.cell (p := ⟨g6, j * 3, none⟩) (cell_lt c60)).trans c60
              have c61 := (hb7.cell (p := ⟨g6, j * 3 + 1, none⟩) (cell_lt c61)).trans c61
              have c62 := (hb7.cell (p := ⟨g6, j * 3 + 2, none⟩) (cell_lt c62)).trans c62
              obtain ⟨hm1, hm2⟩ := hrefs _ (List.getElem_mem hlt6)
              generalize ms[j].1 = m1 at c60 hm2
              generalize ms[j].2.1 = m2 at c61 hm1
              generalize ms[j].2.2 = m3 at c62
              obtain rfl : m2 = a := by simpa using hm1
              go_upto_region 28 with fail
              obtain ⟨e0, e1, hb8⟩ := seen_box hb7 m1 m2 m3
              generalize wr.alloc (.cells #[.int .i64 m1, .int .i64 m2, .int .i64 m3] 53) = w8 at e0 e1 hb8 ⊢
              go_wp2_with fail
              go_roundw
              case rel => exact ⟨j + 1, hlt6, by go_num, hb8⟩
              case measure => simp [intOf]; omega
            · go_wp2_with fail
              refine ⟨⟨k + 1, hlt, rfl, by rw [HNEXT.out], L2, ?_, HL4.out, hB6.trans (hb7.mono hB6.size)⟩, by simp [intOf]; omega⟩
              rw [HNEXT.out]
              exact (hW6.below hb7).mono (by omega)
    · go_wp2_with (go_at_call 7; refine (wakes_any _).mono ?_; rintro e w9 ⟨rfl, hb9⟩)
      go_ret
      exact ⟨rfl, hbr.trans (hb9.mono hbr.size)⟩
end Go.Proofs.Ytjkdmdddgiomjaa
