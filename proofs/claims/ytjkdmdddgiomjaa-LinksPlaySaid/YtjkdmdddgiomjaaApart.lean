/-
  pleachlaw21.LinksApart answers true. Conditions: the acts lie as 'ActsAt' says.
-/
import Derived.Test.YtjkdmdddgiomjaaActs
namespace Go.Proofs.Ytjkdmdddgiomjaa
open Go.RowKit Go.Maps

theorem len_delK_mem {b : Int} : ∀ {l : List Int}, l.Pairwise (· < ·) → b ∈ l → (delK b l).length + 1 = l.length
  | x :: r, h, hb => by
    obtain ⟨h1, h2⟩ := List.pairwise_cons.1 h
    rcases List.mem_cons.1 hb with rfl | hb
    · have hr : delK b r = r := List.filter_eq_self.2 fun z hz => by have := h1 z hz; simp; omega
      have he : delK b (b :: r) = delK b r := by simp [delK]
      rw [he, hr]
      simp
    · have hxb : x ≠ b := by have := h1 b hb; omega
      have he : delK b (x :: r) = x :: delK b r := by simp [delK, hxb]
      rw [he]
      have := len_delK_mem h2 hb
      simp only [List.length_cons]
      omega
theorem delK_out {b : Int} {l : List Int} (h : b ∉ l) : delK b l = l := List.filter_eq_self.2 fun z hz => by
  have : z ≠ b := fun e => h (e ▸ hz)
  simpa using this

/-- What a cut leaves of the links of one end. -/
theorem cut_len {p : PS} (hi : Inv p) {a b c : Int} (hm : mayB a b = true) (hc : c = a ∨ c = b) :
    ((adj2 false a b p.f c).length : Int) = if p.S (min a b) (max a b) then ((p.f c).length : Int) - 1 else (p.f c).length := by
  obtain ⟨h1, h2, h3⟩ := (mayB_iff a b).1 hm
  rw [adj2_eq false h3]
  rcases hc with rfl | rfl
  · rw [if_neg h3, if_pos rfl]
    show ((delK b (p.f c)).length : Int) = _
    split
    · rename_i hs
      have := len_delK_mem (hi.srt c) ((hi.sym c b).2 ⟨h1, h2, h3, hs⟩)
      omega
    · rename_i hs
      rw [delK_out fun h => hs ((hi.sym c b).1 h).2.2.2]
  · rw [if_pos rfl]
    show ((delK a (p.f c)).length : Int) = _
    split
    · rename_i hs
      have := len_delK_mem (hi.srt c) ((hi.sym c a).2 ⟨h2, h1, Ne.symm h3, by rw [Int.min_comm, Int.max_comm]; exact hs⟩)
      omega
    · rename_i hs
      rw [delK_out fun h => hs (by rw [Int.min_comm, Int.max_comm]; exact ((hi.sym c a).1 h).2.2.2)]
theorem cut_other {p : PS} {a b c : Int} (hm : mayB a b = true) (ha : c ≠ a) (hb : c ≠ b) : adj2 false a b p.f c = p.f c := by
  obtain ⟨_, _, h3⟩ := (mayB_iff a b).1 hm
  rw [adj2_eq false h3, if_neg hb, if_neg ha]
def LoopAt (w : World) (B : Nat) (l : List (Int × Int × Int)) (k : Nat) (wr : World) : Prop := ∃ L, WebL wr B (400 * k) L (after (l.take k)) ∧ (∀ j ∈ L, w.heap.size ≤ j) ∧ Below w.heap.size w wr
def cutP (a b : Int) (p : PS) : PS := { p with f := (cutS a b p.f p.S).2.1, S := (cutS a b p.f p.S).2.2 }

theorem WebL.cut {w : World} {B N : Nat} {L : List Nat} {p : PS} (h : WebL w B N L p) (hN : N + 6 < BN) {a b : Int} (ha : I64 a) (hb : I64 b) :
    Calls Try.prog 13 #[.pointer (some ⟨B, 0, none⟩), .int .i64 a, .int .i64 b] w fun e w' => e = .returned (.int .i64 (cutS a b p.f p.S).1) ∧ (∃ L', WebL w' B (N + 5) L' (cutP a b p) ∧ ∀ k ∈ L', k ∈ L ∨ w.heap.size ≤ k) ∧ Turn (· ∈ L) w w' := by
  obtain ⟨il, bl, bp, bs, hW, had, rfl⟩ := h
  have hfun : adj il = p.f := funext had
  have hc := cut_any hW hN ha hb
  rw [hfun] at hc
  refine hc.mono ?_
  rintro e w' ⟨rfl, hL⟩
  obtain ⟨⟨il', hW', ha', hf'⟩, hT⟩ := hL
  exact ⟨rfl, ⟨_, ⟨il', bl, bp, bs, hW', ha', rfl⟩, fun k hk => wb_sub hf' hk⟩, hT⟩

theorem NewInts.turn {w w1 w2 : World} {v : Value} {l : List Int} (h : NewInts w w1 v l) {T : Nat → Prop} (ht : Turn T w1 w2) (hT : ∀ k, w.heap.size ≤ k → ¬ T k) : NewInts w w2 v l := ⟨ownsRow_turn h.1 ht hT, h.2⟩
theorem NewSeen.turn {base : Nat} {w1 w2 : World} {v : Value} {l : List (Int × Int × Int)} (h : NewSeen base w1 v l) {T : Nat → Prop} (ht : Turn T w1 w2) (hT : ∀ k, base ≤ k → ¬ T k) : NewSeen base w2 v l := ⟨ownsRow_turn h.1 ht hT, h.2⟩
theorem NewInts.block {w w1 w2 : World} {v : Value} {l : List Int} (h : NewInts w w1 v l) (ht : Below w1.heap.size w1 w2) : NewInts w w2 v l := h.turn (T := fun _ => False) (Turn.of_below ht) fun _ _ h => h
theorem NewSeen.block {base : Nat} {w1 w2 : World} {v : Value} {l : List (Int × Int × Int)} (h : NewSeen base w1 v l) (ht : Below w1.heap.size w1 w2) : NewSeen base w2 v l := h.turn (T := fun _ => False) (Turn.of_below ht) fun _ _ h => h
theorem ints_same {w : World} {va vb : Value} {l : List Int} (ha : IntsAt w va l) (hb : IntsAt w vb l) (hl : l.length ≤ BN) : Calls Try.prog 15 #[va, vb] w fun e w' => e = .returned (.bool true) ∧ Below w.heap.size w w' :=
  (ints_any ha hb hl).mono (by rintro e w' ⟨rfl, n, rfl⟩; exact ⟨by simp, below_drewN (Below.refl _ _) n⟩)
theorem seen_same {w : World} {va vb : Value} {l : List (Int × Int × Int)} (ha : SeenAt w va l) (hb : SeenAt w vb l) (hl : l.length ≤ BN) : Calls Try.prog 14 #[va, vb] w fun e w' => e = .returned (.bool true) ∧ Below w.heap.size w w' :=
  (seen_any ha hb hl).mono (by rintro e w' ⟨rfl, n, rfl⟩; exact ⟨by simp, below_drewN (Below.refl _ _) n⟩)

/-- The loop's round: what lies behind ask, its answer dropped. -/
theorem ask_round {w wr wA w2 : World} {L L2 : List Nat} (hbr : Below w.heap.size w wr) (hbA : Below wr.heap.size wr wA) (hszA : wA.heap.size = wr.heap.size + 1) (hLr : ∀ j ∈ L, w.heap.size ≤ j)
    (hL2 : ∀ j ∈ L2, j ∈ L ∨ wA.heap.size ≤ j) (hT2 : Turn (· ∈ L) wA w2) : (∀ j ∈ L2, w.heap.size ≤ j) ∧ Below w.heap.size w w2 := by
  have hsz := hbr.size
  refine ⟨fun j hj => ?_, (hbr.trans (hbA.mono hsz)).trans (hT2.below (B := w.heap.size) (by omega) fun j hj hm => by have := hLr j hm; omega)⟩
  rcases hL2 j hj with h | h
  · exact hLr j h
  · omega

set_option maxRecDepth 100000 in
set_option maxHeartbeats 4000000 in
theorem linksApart_any {w : World} {v : Value} {l : List (Int × Int × Int)} (h : ActsAt w v l) (a b c : Int) (ha : I64 a) (hb : I64 b) (hcw : I64 c) :
    Calls Try.prog 3 #[v, .int .i64 a, .int .i64 b, .int .i64 c] w fun e w' => e = .returned (.bool true) ∧ Below w.heap.size w w' := by
  obtain ⟨p, cap, rfl, hlc, hwf, hcells⟩ := h
  by_cases hbig : 300 < l.length
  · have hbig' : (300 : Int) < l.length := by omega
    clear hcells hwf
    go_enter Try.func3, Try.ntmps3
    go_wp2_with (go_at_call 7; refine (wakes_any _).mono ?_; rintro e w9 ⟨rfl, hb9⟩)
    go_ret
    exact ⟨rfl, hb9⟩
  have HC := Lib.hid hcells
  have HWF := Lib.hid hwf
  clear hcells hwf
  go_enter Try.func3, Try.ntmps3
  go_wp2_with (go_at_call 8; refine (new_any _).mono ?_; rintro e w1 ⟨B, bl, bp, bs, rfl, hW1, hlo, hb1⟩)
  have hW1 := webL_new hW1
  go_loopw [27] (fun i wr => ∃ k : Nat, k ≤ l.length ∧ i = .int .i64 k ∧ LoopAt w B l k wr) (fun i _ => l.length - (intOf i).toNat)
  case atStart => exact ⟨0, Nat.zero_le _, rfl, _, hW1, hlo, hb1⟩
  case round =>
    obtain ⟨k, hk, rfl, L, hWr, hLr, hbr⟩ := hrel
    clear hlo hb1 hW1
    by_cases hlt : k < l.length
    · obtain ⟨g, o, rfl, hg, hx⟩ := HC.out k hlt
      obtain ⟨hx0, hx1, hx2⟩ := act_cells hbr hg hx
      obtain ⟨wf1, wf2⟩ := HWF.out _ (List.getElem_mem hlt)
      have hnext := after_take hlt
      have hlast := last_take hk
      have hinv := inv_after (l.take k)
      clear hx
      obtain ⟨d, hd⟩ : ∃ d, l[k].1 = d := ⟨_, rfl⟩
      obtain ⟨x, hx⟩ : ∃ x, l[k].2.1 = x := ⟨_, rfl⟩
      obtain ⟨y, hy⟩ : ∃ y, l[k].2.2 = y := ⟨_, rfl⟩
      rw [hd] at hx0; rw [hx] at hx1 wf1; rw [hy] at hx2 wf2; rw [hd, hx, hy] at hnext
      have HNEXT := Lib.hid hnext
      clear hnext hd hx hy
      have hlow := hinv.low
      go_upto_region 9 with fail
      obtain ⟨hWA, hbA, hszA, k0, k1, k2⟩ := act_box hWr d x y
      generalize wr.alloc (.cells #[.int .i64 d, .int .i64 x, .int .i64 y] 27) = wA at hWA hbA hszA k0 k1 k2 ⊢
      go_wp2_with (go_at_call 9; refine (ask_any hWA hinv (by unfold BN; omega) (by unfold BN; omega) wf1 wf2).mono ?_; rintro e w2 ⟨lv, sv, rfl, hl2, hs2, ⟨L2, hW2, hL2⟩, hT2⟩)
      obtain ⟨hL3, hb3⟩ := ask_round hbr hbA hszA hLr hL2 hT2
      go_roundw
      case rel => exact ⟨k + 1, hlt, by go_num, L2, by rw [HNEXT.out]; exact hW2.mono (by omega), hL3, hb3⟩
      case measure => simp [intOf]; omega
    · have hkl : k = l.length := by omega
      subst hkl
      rw [List.take_length] at hWr
      have hinv := inv_after l
      generalize after l = q at hWr hinv
      have hLlt : ∀ j, wr.heap.size ≤ j → ¬ j ∈ L := fun j hj hm => by have := hWr.lt hm; omega
      have cLinked := hWr.linked ha hb
      have cLinks := hWr.links hcw (by unfold BN; omega)
      go_upto_region 12 with (first
        | (go_at_call 10; refine cLinked.mono ?_; rintro e w' ⟨rfl, rfl⟩)
        | (go_at_call 11; refine cLinks.mono ?_; rintro e w3 ⟨v3, rfl, hv3, hb3⟩)
        | (go_at_call 12; refine ((hWr.below hb3).watches (by unfold BN; omega) c).mono ?_; rintro e w4 ⟨v4, rfl, hv4, hb4⟩))
      have hsz3 := hb3.size
      have hsz4 := hb4.size
      have hW4 := (hWr.below hb3).below hb4
      have hB4 := (hbr.trans (hb3.mono hbr.size)).trans (hb4.mono (Nat.le_trans hbr.size hsz3))
      have hm4 := hv3.block hb4
      obtain ⟨p3, c3, rfl, _, _⟩ := hm4.at
      obtain ⟨p4, c4, rfl, _, _⟩ := hv4.at
      have cCut := hW4.cut (by unfold BN; omega) ha hb
      have hTL : ∀ j, j < w.heap.size → ¬ j ∈ L := fun j hj hm => by have := hLr j hm; omega
      clear hv3 hWr cLinks cLinked hb3 hb4 hbr HWF HC
      cases hmay : mayB a b
      · have hs : cutS a b q.f q.S = (2, q.f, q.S) := by rw [cutS, if_pos hmay]
        have hP : cutP a b q = q := by rw [cutP, hs]
        rw [hP, hs] at cCut
        clear hs hP hmay
        go_wp2_with (first
          | (go_at_call 13; refine cCut.mono ?_; rintro e w5 ⟨rfl, ⟨L5, hW5, hL5⟩, hT5⟩)
          | (go_at_call 10; refine (hW5.linked ha hb).mono ?_; rintro e w6 ⟨rfl, rfl⟩)
          | (go_at_call 7; refine (wakes_any _).mono ?_; rintro e w9 ⟨rfl, hb9⟩))
        go_ret
        have hB5 := hB4.trans (hT5.below hB4.size hTL)
        exact ⟨rfl, hB5.trans (hb9.mono hB5.size)⟩
      · have hs : cutS a b q.f q.S = (0, adj2 false a b q.f, pairS false (min a b) (max a b) q.S) := by rw [cutS, if_neg (by simp [hmay])]
        have hPf : (cutP a b q).f = adj2 false a b q.f := by rw [cutP, hs]
        have hPS : (cutP a b q).S (min a b) (max a b) = false := by
          have : (cutP a b q).S = pairS false (min a b) (max a b) q.S := by rw [cutP, hs]
          rw [this]; simp [pairS]
        have hPM : (cutP a b q).M = q.M := rfl
        rw [hs] at cCut
        clear hs
        go_upto_region 15 with (go_at_call 13; refine cCut.mono ?_; rintro e w5 ⟨rfl, ⟨L5, hW5, hL5⟩, hT5⟩)
        have hB5 := hB4.trans (hT5.below hB4.size hTL)
        have hm5 := hm4.turn hT5 hLlt
        have hv5 := hv4.turn hT5 fun j hj => hLlt j (by omega)
        have cLinks := hW5.links hcw (by unfold BN; omega)
        rw [hPf] at cLinks
        have hinv2 := hinv
        go_upto_region 18 with (first
          | (go_at_call 11; refine cLinks.mono ?_; rintro e w6 ⟨v6, rfl, hv6, hb6⟩; have hm6 := hm5.block hb6; have hv56 := hv5.block hb6; have cLk := (hW5.below hb6).linked ha hb; rw [hPS] at cLk; have cWt := (hW5.below hb6).watches (by unfold BN; omega) c; rw [hPM] at cWt)
          | (go_at_call 10; refine cLk.mono ?_; rintro e w' ⟨rfl, rfl⟩)
          | (go_at_call 12; refine cWt.mono ?_; rintro e w7 ⟨v7, rfl, hv7, hb7⟩; have hv57 := hv56.block hb7)
          | (go_at_call 14; refine (seen_same hv57.at hv7.at (Nat.le_trans (hW4.len _) (by unfold BN; omega))).mono ?_; rintro e w8 ⟨rfl, hb8⟩))
        have hm8 := (hm6.block hb7).block hb8
        have hn8 := (hv6.block hb7).block hb8
        obtain ⟨p6, c6, rfl, _, _⟩ := hn8.at
        have hB6 := hB5.trans (hb6.mono hB5.size)
        have hB7 := hB6.trans (hb7.mono hB6.size)
        have hB8 := hB7.trans (hb8.mono hB7.size)
        have hlen := hinv.len c
        clear hm6 hv6 hv56 hv57 hv7 hb6 hb7 hb8 cLk cWt cLinks hW5 hT5 hm5 hv5 hB5 hB6 hB7 hm4 hv4 hW4 hB4 cCut hPf hPS hPM
        by_cases hco : c = a ∨ c = b
        · have hcl := cut_len hinv hmay hco
          have e1 : (c != a && c != b) = false := by rcases hco with rfl | rfl <;> simp
          have HCL := Lib.hid hcl
          clear hcl hmay
          cases e2 : (c != a)
          · cases hS : q.S (min a b) (max a b)
            · have hE : (((adj2 false a b q.f c).length : Int) == ((q.f c).length : Int)) = true := by have := HCL.out; rw [hS] at this; simpa using this
              go_wp2_with (go_at_call 7; refine (wakes_any _).mono ?_; rintro e w9 ⟨rfl, hb9⟩)
              go_ret
              exact ⟨rfl, hB8.trans (hb9.mono hB8.size)⟩
            · have hE : (((adj2 false a b q.f c).length : Int) == ((q.f c).length : Int) - 1) = true := by have := HCL.out; rw [hS] at this; simpa using this
              go_wp2_with (go_at_call 7; refine (wakes_any _).mono ?_; rintro e w9 ⟨rfl, hb9⟩)
              go_ret
              exact ⟨rfl, hB8.trans (hb9.mono hB8.size)⟩
          · have e3 : (c != b) = false := by rw [e2] at e1; simpa using e1
            cases hS : q.S (min a b) (max a b)
            · have hE : (((adj2 false a b q.f c).length : Int) == ((q.f c).length : Int)) = true := by have := HCL.out; rw [hS] at this; simpa using this
              go_wp2_with (go_at_call 7; refine (wakes_any _).mono ?_; rintro e w9 ⟨rfl, hb9⟩)
              go_ret
              exact ⟨rfl, hB8.trans (hb9.mono hB8.size)⟩
            · have hE : (((adj2 false a b q.f c).length : Int) == ((q.f c).length : Int) - 1) = true := by have := HCL.out; rw [hS] at this; simpa using this
              go_wp2_with (go_at_call 7; refine (wakes_any _).mono ?_; rintro e w9 ⟨rfl, hb9⟩)
              go_ret
              exact ⟨rfl, hB8.trans (hb9.mono hB8.size)⟩
        · obtain ⟨hca, hcb⟩ : c ≠ a ∧ c ≠ b := ⟨fun h => hco (.inl h), fun h => hco (.inr h)⟩
          have e1 : (c != a) = true := by simpa using hca
          have e2 : (c != b) = true := by simpa using hcb
          rw [cut_other hmay hca hcb] at hn8 ⊢
          clear hca hcb hco hmay
          go_wp2_with (first
            | (go_at_call 15; refine (ints_same hm8.at hn8.at (by unfold BN; omega)).mono ?_; rintro e w9 ⟨rfl, hb9⟩; have hB9 := hB8.trans (hb9.mono hB8.size))
            | (go_at_call 7; refine (wakes_any _).mono ?_; rintro e w10 ⟨rfl, hb10⟩))
          go_ret
          exact ⟨rfl, hB9.trans (hb10.mono hB9.size)⟩
end Go.Proofs.Ytjkdmdddgiomjaa
