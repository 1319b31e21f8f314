/-
  pleachlaw10.MatchMore holds. Conditions: the trees lie as 'TrV' says, the names as 'Binds'; the table of letters is as it was laid.
-/
import Derived.Test.YtmnjcbjfkaoeaaaDoorS20
import Derived.Test.YtmnjcbjfkaoeaaaDoorVr1
import Derived.Test.YtmnjcbjfkaoeaaaDoorBr1
namespace Go.Proofs.YtmnjcbjfkaoeaaaDoor
open Go.RowKit

theorem sameB_id : ∀ l : List Bd, sameB l l = true
  | [] => rfl
  | b :: r => by rw [sameB, sameB_id r, same_self]; simp
theorem Binds.front {F : Nat → Prop} {w : World} {p : Option Addr} {n c : Nat} {l m : List Bd} (h : Binds F w (.slice p n c) (l ++ m)) : Binds F w (.slice p l.length c) l := by
  obtain ⟨p', c', he, h1, h2, h3, h4⟩ := h
  cases he
  rw [List.length_append] at h1 h2
  refine ⟨p, c, rfl, by omega, by omega, fun i hi => ?_, h4⟩
  have := h3 i (by rw [List.length_append]; omega)
  rwa [List.getElem_append_left hi] at this
theorem Binds.back {F : Nat → Prop} {w : World} {ad : Addr} {n c : Nat} {l m : List Bd} (h : Binds F w (.slice (some ad) n c) (l ++ m)) : Binds F w (.slice (some (ad.add (l.length * 6))) m.length (c - l.length)) m := by
  obtain ⟨p', c', he, h1, h2, h3, h4⟩ := h
  cases he
  rw [List.length_append] at h1 h2
  refine ⟨_, _, rfl, by omega, by omega, fun i hi => ?_, fun e => by cases e⟩
  obtain ⟨g, o, sv, k1, k2, k3, k4, k5, k6⟩ := h3 (l.length + i) (by rw [List.length_append]; omega)
  rw [List.getElem_append_right (by omega)] at k3 k4 k5 k6
  simp only [Nat.add_sub_cancel_left] at k3 k4 k5 k6
  rw [Nat.add_mul, ← Nat.add_assoc] at k3 k5
  cases k1
  exact ⟨g, o + l.length * 6, sv, by rw [addr_add], k2, k3, k4, k5, k6⟩
theorem Binds.room {F : Nat → Prop} {w : World} {p : Option Addr} {n c : Nat} {l : List Bd} (h : Binds F w (.slice p n c) l) : l.length ≤ c := by
  obtain ⟨p', c', he, h1, _⟩ := h
  cases he
  exact h1
/-- The names put ahead: those that a pattern has not. -/
def aheadB (p : Tr) (more : List Bd) : List Bd := more.filter fun b => !hasB (varsT p) b.s
theorem ahead_take {p : Tr} {more : List Bd} {k : Nat} (hk : k < more.length) : aheadB p (more.take (k + 1)) = if hasB (varsT p) more[k].s then aheadB p (more.take k) else aheadB p (more.take k) ++ [more[k]] := by
  unfold aheadB
  rw [List.take_succ_eq_append_getElem hk, List.filter_append]
  cases h : hasB (varsT p) more[k].s <;> simp [List.filter, h]
theorem ahead_len (p : Tr) (more : List Bd) : (aheadB p more).length ≤ more.length := List.length_filter_le ..
theorem ahead_off {p : Tr} {more : List Bd} (hf : fitsB p = true) : ∀ z ∈ p.pre, z.k = 5 → undB z.s = false → ∀ q ∈ aheadB p more, q.s ≠ z.s := by
  intro z hz h5 hu q hq he
  have h1 := (List.mem_filter.1 hq).2
  have : hasB (varsT p) q.s = true := by
    rw [hasB_mem]
    unfold varsT
    rw [if_pos hf]
    exact vfold_mem.2 (.inr ⟨z, hz, h5, hu, he.symm⟩)
  rw [this] at h1
  simp at h1
/-- One bind's cells, as a slice of one. -/
theorem Binds.one {F : Nat → Prop} {w : World} {p : Option Addr} {n c : Nat} {l : List Bd} (h : Binds F w (.slice p n c) l) {k : Nat} (hk : k < l.length) : ∃ g o sv, p = some ⟨g, o, Option.none⟩ ∧ F g ∧ (w.cell? ⟨g, o + k * 6, Option.none⟩ = some (.string l[k].s) ∧ NodeAt w g (o + k * 6 + 1) l[k].t sv) ∧ TrV F w l[k].t sv ∧ l[k].s.size ≤ BL * 64 := by
  obtain ⟨g, o, sv, h1, h2, h3, h4, h5, h6⟩ := h.at hk
  exact ⟨g, o, sv, h1, h2, ⟨h3, h5⟩, h6, h4⟩
def MRel (p : Tr) (more : List Bd) (w1 : World) (out i : Value) (wr : World) : Prop :=
  ∃ k : Nat, k ≤ more.length ∧ i = .int .i64 k ∧ ∃ L : List (Bd × Value), BRow w1.heap.size wr out L ∧ L.map (·.1) = aheadB p (more.take k) ∧ Below w1.heap.size w1 wr
theorem BRow.push {base : Nat} {w w' : World} {v v' : Value} {L : List (Bd × Value)} {b : Bd} {sv : Value} (h : BRow base w v L) (hx : TrV (fun g => g < base) w b.t sv) (hs : b.s.size ≤ BL * 64) (hown : w'.ownsRow base 38 6 v' (L.length + 1) (L.flatMap bcells ++ bcells (b, sv))) (hb : Below base w w') :
    BRow base w' v' (L ++ [(b, sv)]) := by
  refine ⟨by rw [List.length_append, List.flatMap_append]; simpa using hown, fun q hq => ?_⟩
  have hq' : TrV (fun g => g < base) w q.1.t q.2 ∧ q.1.s.size ≤ BL * 64 := by
    rcases List.mem_append.1 hq with hq | hq
    · exact h.at_ q hq
    · simp only [List.mem_singleton] at hq; subst hq; exact ⟨hx, hs⟩
  exact ⟨⟨hq'.1.wf, hq'.1.kids.keep fun g hg' hl => hb.block g hg'⟩, hq'.2⟩

set_option maxHeartbeats 16000000 in
set_option maxRecDepth 100000 in
theorem matchMore_any {w : World} {p x : Tr} {l more : List Bd} {pv xv v mv : Value} (hL : Letters w) (hp : TrV (fun _ => True) w p pv) (hx : TrV (fun _ => True) w x xv) (hl : Binds (fun _ => True) w v l) (hm : Binds (fun _ => True) w mv more) :
    Calls Tryd.prog 3 #[.agg #[.int .i8 p.k, .int .i64 p.n, .string p.s, .string p.t, pv], .agg #[.int .i8 x.k, .int .i64 x.n, .string x.s, .string x.t, xv], v, mv] w fun e w' => e = .returned (.bool true) ∧ Below w.heap.size w w' := by
  obtain ⟨p1, c1, rfl⟩ := hp.kids.slice
  obtain ⟨p2, c2, rfl⟩ := hx.kids.slice
  obtain ⟨pl, cl, rfl⟩ := hl.slice
  obtain ⟨pm, cm, rfl⟩ := hm.slice
  obtain ⟨n1, n2, hb1, hz1⟩ := two_new w (.cells #[.int .i8 p.k, .int .i64 p.n, .string p.s, .string p.t, .slice p1 p.l.length c1] 25) (.cells #[.int .i8 x.k, .int .i64 x.n, .string x.s, .string x.t, .slice p2 x.l.length c2] 28)
  obtain ⟨a0, a1, a2, a3, a4⟩ := node_heap n1
  obtain ⟨b0, b1, b2, b3, b4⟩ := node_heap n2
  simp only [Nat.zero_add] at a1 a2 a3 a4 b1 b2 b3 b4
  clear n1 n2
  have HL := Lib.hid (hL.under hb1)
  have HP := Lib.hid (hp.below hb1)
  have HX := Lib.hid (hx.below hb1)
  have HB := Lib.hid (hl.under hb1)
  have HM := Lib.hid (hm.under hb1)
  clear hL hp hx hl hm
  go_enter Tryd.func3, Tryd.ntmps3
  go_upto_region 1 with fail
  generalize (w.alloc (.cells #[.int .i8 p.k, .int .i64 p.n, .string p.s, .string p.t, .slice p1 p.l.length c1] 25)).alloc (.cells #[.int .i8 x.k, .int .i64 x.n, .string x.s, .string x.t, .slice p2 x.l.length c2] 28) = w1 at hb1 hz1 a0 a1 a2 a3 a4 b0 b1 b2 b3 b4 HL HP HX HB HM ⊢
  clear hz1
  have hmv : ∀ W : World, Below w1.heap.size w1 W → (W.cell? ⟨w.heap.size, 0, none⟩ = some (.int .i8 p.k) ∧ W.cell? ⟨w.heap.size, 1, none⟩ = some (.int .i64 p.n) ∧ W.cell? ⟨w.heap.size, 2, none⟩ = some (.string p.s) ∧ W.cell? ⟨w.heap.size, 3, none⟩ = some (.string p.t) ∧ W.cell? ⟨w.heap.size, 4, none⟩ = some (.slice p1 p.l.length c1)) ∧
      (W.cell? ⟨w.heap.size + 1, 0, none⟩ = some (.int .i8 x.k) ∧ W.cell? ⟨w.heap.size + 1, 1, none⟩ = some (.int .i64 x.n) ∧ W.cell? ⟨w.heap.size + 1, 2, none⟩ = some (.string x.s) ∧ W.cell? ⟨w.heap.size + 1, 3, none⟩ = some (.string x.t) ∧ W.cell? ⟨w.heap.size + 1, 4, none⟩ = some (.slice p2 x.l.length c2)) := by
    intro W hb
    have f : ∀ g o u, w1.cell? ⟨g, o, none⟩ = some u → W.cell? ⟨g, o, none⟩ = some u := fun g o u h => (hb.cell (p := ⟨g, o, none⟩) (cell_block h)).trans h
    exact ⟨⟨f _ _ _ a0, f _ _ _ a1, f _ _ _ a2, f _ _ _ a3, f _ _ _ a4⟩, f _ _ _ b0, f _ _ _ b1, f _ _ _ b2, f _ _ _ b3, f _ _ _ b4⟩
  have HMV := Lib.hid hmv
  have cN := greatN_any HP.out
  have cT := fun (W : World) (hb : Below w1.heap.size w1 W) => greatT_any (HX.out.below hb)
  have cB := fun (W : World) (hb : Below w1.heap.size w1 W) => greatL_any (HB.out.under hb)
  have cC := fun (W : World) (hb : Below w1.heap.size w1 W) => greatL_any (HM.out.under hb)
  have cW := fun (W : World) (hb : Below w1.heap.size w1 W) => wakes_any (HL.out.under hb)
  generalize decide (8192 ≤ p.sz 8192) = g1 at cN
  generalize decide (1024 ≤ x.sz 1024) = g2 at cT
  generalize hg3 : greatB l = g3 at cB
  generalize hg4 : greatB more = g4 at cC
  have hwk : ∀ W, Below w1.heap.size w1 W → ∀ e W', e = Ending.returned (.bool true) ∧ Below W.heap.size W W' → e = Ending.returned (.bool true) ∧ Below w.heap.size w W' := fun W hb e W' h => ⟨h.1, hb1.trans ((hb.trans (h.2.mono hb.size)).mono hb1.size)⟩
  have HWK := Lib.hid hwk
  clear hmv hwk
  cases g1
  rotate_left 1
  · clear cT cB cC hg3 hg4
    go_wp2_with (first
      | (go_at_call 5; refine cN.mono ?_; rintro e w5 ⟨rfl, hb5⟩)
      | (go_at_call 8; refine (cW _ hb5).mono ?_; rintro e w6 ⟨rfl, hb6⟩))
    go_ret
    exact HWK.out _ hb5 _ _ ⟨rfl, hb6⟩
  cases g2
  rotate_left 1
  · clear cB cC hg3 hg4
    go_wp2_with (first
      | (go_at_call 5; refine cN.mono ?_; rintro e w5 ⟨rfl, hb5⟩; obtain ⟨⟨x0, x1, x2, x3, x4⟩, y0, y1, y2, y3, y4⟩ := HMV.out _ hb5)
      | (go_at_call 6; refine (cT _ hb5).mono ?_; rintro e w7 ⟨rfl, hb7⟩; have hB7 := hb5.trans (hb7.mono hb5.size))
      | (go_at_call 8; refine (cW _ hB7).mono ?_; rintro e w6 ⟨rfl, hb6⟩))
    go_ret
    exact HWK.out _ hB7 _ _ ⟨rfl, hb6⟩
  go_upto_region 1 with fail
  -- the two rows of names: met one by one
  have hstep : ∀ (P : Prop), P → P := fun _ h => h
  clear hstep
  cases g3
  rotate_left 1
  · clear cC hg3 hg4
    go_wp2_with (first
      | (go_at_call 5; refine cN.mono ?_; rintro e w5 ⟨rfl, hb5⟩; obtain ⟨⟨x0, x1, x2, x3, x4⟩, y0, y1, y2, y3, y4⟩ := HMV.out _ hb5)
      | (go_at_call 6; refine (cT _ hb5).mono ?_; rintro e w7 ⟨rfl, hb7⟩; have hB7 := hb5.trans (hb7.mono hb5.size))
      | (go_at_call 7; refine (cB _ hB7).mono ?_; rintro e w8 ⟨rfl, hb8⟩; have hB8 := hB7.trans (hb8.mono hB7.size))
      | (go_at_call 8; refine (cW _ hB8).mono ?_; rintro e w6 ⟨rfl, hb6⟩))
    go_ret
    exact HWK.out _ hB8 _ _ ⟨rfl, hb6⟩
  have hl200 : l.length ≤ 200 := by
    unfold greatB at hg3
    simp only [Bool.or_eq_false_iff, decide_eq_false_iff_not] at hg3
    omega
  have tok1 : True := trivial
  cases g4
  rotate_left 1
  · clear hg3 hg4
    go_wp2_with (first
      | (go_at_call 5; refine cN.mono ?_; rintro e w5 ⟨rfl, hb5⟩; obtain ⟨⟨x0, x1, x2, x3, x4⟩, y0, y1, y2, y3, y4⟩ := HMV.out _ hb5)
      | (go_at_call 6; refine (cT _ hb5).mono ?_; rintro e w7 ⟨rfl, hb7⟩; have hB7 := hb5.trans (hb7.mono hb5.size))
      | (go_at_call 7; have _t := tok1; refine (cB _ hB7).mono ?_; rintro e w8 ⟨rfl, hb8⟩; have hB8 := hB7.trans (hb8.mono hB7.size); clear tok1)
      | (go_at_call 7; refine (cC _ hB8).mono ?_; rintro e w9 ⟨rfl, hb9⟩; have hB9 := hB8.trans (hb9.mono hB8.size))
      | (go_at_call 8; refine (cW _ hB9).mono ?_; rintro e w6 ⟨rfl, hb6⟩))
    go_ret
    exact HWK.out _ hB9 _ _ ⟨rfl, hb6⟩
  have hm200 : more.length ≤ 200 := by
    unfold greatB at hg4
    simp only [Bool.or_eq_false_iff, decide_eq_false_iff_not] at hg4
    omega
  have cV := fun (W : World) (hb : Below w1.heap.size w1 W) => vars_any (HP.out.below hb)
  clear hg3 hg4
  go_upto_region 6 with (first
      | (go_at_call 5; refine cN.mono ?_; rintro e w5 ⟨rfl, hb5⟩; obtain ⟨⟨x0, x1, x2, x3, x4⟩, y0, y1, y2, y3, y4⟩ := HMV.out _ hb5)
      | (go_at_call 6; refine (cT _ hb5).mono ?_; rintro e w7 ⟨rfl, hb7⟩; have hB7 := hb5.trans (hb7.mono hb5.size))
      | (go_at_call 7; have _t := tok1; refine (cB _ hB7).mono ?_; rintro e w8 ⟨rfl, hb8⟩; have hB8 := hB7.trans (hb8.mono hB7.size); clear tok1)
      | (go_at_call 7; refine (cC _ hB8).mono ?_; rintro e w9 ⟨rfl, hb9⟩; have hB9 := hB8.trans (hb9.mono hB8.size); obtain ⟨⟨u0, u1, u2, u3, u4⟩, _⟩ := HMV.out _ hB9)
      | (go_at_call 9; refine (cV _ hB9).mono ?_; rintro e w10 ⟨v10, rfl, hs10, hb10⟩))
  have hB10 := hB9.trans (hb10.mono hB9.size)
  obtain ⟨q10, cp10, rfl⟩ : ∃ q c, v10 = .slice q (varsT p).length c := by obtain ⟨q, c, h, _⟩ := hs10; exact ⟨q, c, h⟩
  have HS10 := Lib.hid hs10
  obtain ⟨i0, hi, hi0, hi1, hi2⟩ := info_parts infoBind
  have hlenm : more.length ≤ 2199023255552 := by omega
  clear x0 x1 x2 x3 x4 y0 y1 y2 y3 y4 u0 u1 u2 u3 u4 a0 a1 a2 a3 a4 b0 b1 b2 b3 b4 cN cT cB cC cV hb5 hb7 hb8 hb9 hb10 hs10
  go_loopw [10, 11] (fun out i wr => MRel p more w10 out i wr) (fun _ i _ => more.length - (intOf i).toNat)
  case atStart => exact ⟨0, Nat.zero_le _, rfl, [], BRow.nil .., rfl, Below.refl _ _⟩
  case round =>
    obtain ⟨k, hk, rfl, L, hrow, hLm, hbr⟩ := hrel
    obtain ⟨q, cp, rfl⟩ := hrow.slice
    have hBr := hB10.trans (hbr.mono hB10.size)
    have HROW := Lib.hid hrow
    have HLM := Lib.hid hLm
    have hLk : L.length ≤ k := by have := congrArg List.length hLm; have := ahead_len p (more.take k); simp at *; omega
    clear hrow hLm
    by_cases hlt : k < more.length
    · have hsrc : Binds (fun g => g < w10.heap.size) wr (.slice pm more.length cm) more := ((HM.out.under hB10).mono (F' := fun g => g < w10.heap.size) fun g _ h => h).under hbr
      obtain ⟨g, o, sv, rfl, _, ⟨hs, hnode⟩, htr, hsz⟩ := hsrc.one hlt
      obtain ⟨p3, c3, rfl⟩ := htr.kids.slice
      obtain ⟨e0, e1, e2, e3, e4⟩ := hnode
      have cH := has_any (s := more[k].s) (HS10.out.below hbr)
      have HTR := Lib.hid htr
      clear htr hsrc
      cases hh : hasB (varsT p) more[k].s
      · rw [hh] at cH
        have HN : Hid (aheadB p (more.take (k + 1)) = aheadB p (more.take k) ++ [more[k]]) := by unfold Hid; rw [ahead_take hlt, hh]; rfl
        have hbs : w10.heap.size ≤ wr.heap.size := hbr.size
        clear hh
        go_wp2_with (first
          | (go_at_call 10; refine cH.mono ?_; rintro e w12 ⟨rfl, hb12⟩
             have f := fun o' u (h : wr.cell? ⟨g, o', none⟩ = some u) => (hb12.cell (p := ⟨g, o', none⟩) (cell_block h)).trans h
             have hs' := f _ _ hs
             have f0 := f _ _ e0
             have f1 := f _ _ e1
             have f2 := f _ _ e2
             have f3 := f _ _ e3
             have f4 := f _ _ e4
             clear f
             have hrow13 := (HROW.out.under hb12).under (alloc_below w12 (.cells (bcells (more[k], .slice p3 more[k].t.l.length c3)).toArray 38))
             have hown13 := hrow13.own
             have hsz13 : w10.heap.size ≤ (w12.alloc (.cells (bcells (more[k], .slice p3 more[k].t.l.length c3)).toArray 38)).heap.size := by have := hb12.size; simp; omega
             have HR13 := Lib.hid hrow13
             clear hrow13)
          | (at_builtin; refine wpList_append_own _ rfl (.tmp 50) (.tmp 55) 29 rfl w10.heap.size 38 i0 _ 6 88 Tryd.underlying29 hi hi0 hi1 hi2 rfl (by decide) _ L.length (L.flatMap bcells) rfl hown13 ⟨w12.heap.size, 0, none⟩ 1 1 (bcells (more[k], .slice p3 more[k].t.l.length c3)) rfl rfl (cells_at_new w12 (bcells (more[k], .slice p3 more[k].t.l.length c3)) 38) (bcells_plain (q := (more[k], .slice p3 more[k].t.l.length c3)) HTR.out) (by unfold maxLen; omega) (by omega) hsz13 ?_; intro v14 w14 hown14 hgrow14 hnil14))
        have hb13 := hb12.trans ((alloc_below w12 (.cells (bcells (more[k], .slice p3 more[k].t.l.length c3)).toArray 38)).mono hb12.size)
        have hb14 : Below w10.heap.size (w12.alloc (.cells (bcells (more[k], .slice p3 more[k].t.l.length c3)).toArray 38)) w14 := (Below.refl _ _).grown hgrow14 hsz13 (row_base HR13.out.own)
        have hrow14 := HR13.out.push (HTR.out.below hb13) hsz hown14 hb14
        go_roundw
        case rel => exact ⟨k + 1, hlt, by go_num, _, hrow14, by rw [List.map_append, HLM.out, HN.out]; rfl, (hbr.trans (hb13.mono hbr.size)).trans hb14⟩
        case measure => simp [intOf]; omega
      · rw [hh] at cH
        have HN : Hid (aheadB p (more.take (k + 1)) = aheadB p (more.take k)) := by unfold Hid; rw [ahead_take hlt, hh]; rfl
        clear hh
        go_wp2_with (go_at_call 10; refine cH.mono ?_; rintro e w12 ⟨rfl, hb12⟩)
        go_roundw
        case rel => exact ⟨k + 1, hlt, by go_num, _, HROW.out.under hb12, by rw [HLM.out, HN.out], hbr.trans (hb12.mono hbr.size)⟩
        case measure => simp [intOf]; omega
    · rw [List.take_of_length_le (by omega)] at HLM
      have hal := ahead_len p more
      have hLl : L.length = (aheadB p more).length := by rw [← HLM.out, List.length_map]
      have hsrc1 : Binds (fun g => g < wr.heap.size) wr (.slice q L.length cp) (L.map (·.1)) := (HROW.out.binds (by unfold BL; omega)).mono fun g _ h => h
      have hsrc2 : Binds (fun g => g < wr.heap.size) wr (.slice pl l.length cl) l := (HB.out.under hBr).mono fun g _ h => h
      have HAH := Lib.hid hsrc1
      have HSR2 := Lib.hid hsrc2
      have tok2 : True := trivial
      have hlen1 : ([] : List (Bd × Value)).length + (L.map (·.1)).length ≤ 1048576 := by simp; omega
      have hlen2 : (L.map (·.1)).length + l.length ≤ 1048576 := by simp; omega
      have HLL := Lib.hid hLl
      clear hsrc2 hLl hal
      go_upto_region 13 with (first
        | (at_builtin; have _t := tok2; refine wpList_append_binds rfl (.tmp 57) (.tmp 58) rfl wr.heap.size (.slice none 0 0) [] rfl (BRow.nil _ _) q L.length cp (L.map (·.1)) rfl hsrc1 hlen1 (Nat.le_refl _) ?_; intro v12 w12 L12 hrow12 hm12 hb12; rw [List.nil_append] at hrow12; obtain ⟨q12, c12, rfl⟩ := hrow12.slice; have hl12 : L12.length = (L.map (·.1)).length := (by rw [← hm12, List.length_map]); have hsr := HSR2.out.under hb12; have hlen3 : L12.length + l.length ≤ 1048576 := (by omega); have hsz12 := hb12.size; clear tok2 hl12)
        | (at_builtin; refine wpList_append_binds rfl (.tmp 60) (.tmp 61) rfl wr.heap.size (.slice q12 L12.length c12) L12 rfl hrow12 pl l.length cl l rfl hsr hlen3 hsz12 ?_; intro v13 w13 L13 hrow13 hm13 hb13; obtain ⟨q13, c13, hv13⟩ := hrow13.slice; obtain ⟨n13, hn13⟩ : ∃ n, n = (L12 ++ L13).length := ⟨_, rfl⟩; rw [← hn13] at hv13; subst hv13; have HN13 := Lib.hid hn13; clear hn13))
      have hb1213 := hb12.trans hb13
      have hB13 := hBr.trans (hb1213.mono hBr.size)
      have hbo : Binds (fun _ => True) w13 (.slice q13 n13 c13) (aheadB p more ++ l) := by
        have := hrow13.binds (by rw [List.length_append]; have : L13.length = l.length := by rw [← hm13, List.length_map]
                                 unfold BL; omega)
        rwa [List.map_append, hm12, hm13, HLM.out] at this
      have HBO := Lib.hid hbo
      have HA13 := Lib.hid (HAH.out.under hb1213)
      have cM := mmatch_any (F := fun _ => True) ⟨HL.out.under hB13, fun _ _ => trivial, HP.out.below hB13, HX.out.below hB13, HB.out.under hB13⟩
      rw [allS_one] at cM
      obtain ⟨⟨x0, x1, x2, x3, x4⟩, y0, y1, y2, y3, y4⟩ := HMV.out _ hB13
      clear hsrc1 hrow12 hrow13 hbo hsr hb12 hb13
      generalize hq1 : matchS p x l = q1 at cM
      have HQ1 := Lib.hid hq1
      clear hq1
      go_upto_region 14 with (go_at_call 11; refine cM.mono ?_; rintro e w14 ⟨v14, l14, ok14, er14, rfl, hl14, hb14, hq14⟩)
      obtain ⟨p14, c14, rfl⟩ := hl14.slice
      have hB14 := hB13.trans (hb14.mono hB13.size)
      have cM2 := mmatch_any (F := fun _ => True) ⟨HL.out.under hB14, fun _ _ => trivial, HP.out.below hB14, HX.out.below hB14, HBO.out.under hb14⟩
      rw [allS_one] at cM2
      generalize hq2 : matchS p x (aheadB p more ++ l) = q2 at cM2
      have HQ2 := Lib.hid hq2
      have HQ14 := Lib.hid hq14
      have HL14 := Lib.hid hl14
      clear hq2 hq14 x0 x1 x2 x3 x4 y0 y1 y2 y3 y4 hl14
      obtain ⟨⟨x0, x1, x2, x3, x4⟩, y0, y1, y2, y3, y4⟩ := HMV.out _ hB14
      go_upto_region 15 with (go_at_call 11; refine cM2.mono ?_; rintro e w15 ⟨v15, l15, ok15, er15, rfl, hl15, hb15, hq15⟩)
      obtain ⟨p15, c15, rfl⟩ := hl15.slice
      have hB15 := hB14.trans (hb15.mono hB14.size)
      have HQ15 := Lib.hid hq15
      have HL15 := Lib.hid hl15
      have cW5 := cW _ hB15
      clear hq15 hl15 x0 x1 x2 x3 x4 y0 y1 y2 y3 y4 cM cM2
      by_cases he : er14 = 0
      rotate_left 1
      · have he4 : (er14 != 0) = true := by simpa using he
        clear he
        go_wp2_with (go_at_call 8; refine cW5.mono ?_; rintro e w16 ⟨rfl, hb16⟩)
        go_ret
        exact HWK.out _ hB15 _ _ ⟨rfl, hb16⟩
      subst he
      by_cases he : er15 = 0
      rotate_left 1
      · have he4 : (er15 != 0) = true := by simpa using he
        clear he
        go_wp2_with (go_at_call 8; refine cW5.mono ?_; rintro e w16 ⟨rfl, hb16⟩)
        go_ret
        exact HWK.out _ hB15 _ _ ⟨rfl, hb16⟩
      subst he
      have hfit : fitsB p = true := by
        have h0 : (matchS p x l).2.2 = 0 := by rw [HQ1.out, HQ14.out]
        unfold matchS at h0
        split at h0
        · simp at h0
        · rename_i hc
          simp only [Bool.or_eq_true, Bool.not_eq_true', not_or, Bool.not_eq_false] at hc
          have := hc.1
          unfold patB at this
          simp only [Bool.and_eq_true] at this
          exact this.1
      have hboth := match_ahead (p := p) (x := x) (l := l) (a := aheadB p more) (ahead_off hfit) (by rw [HQ1.out, HQ14.out]) (by rw [HQ2.out, HQ15.out])
      rw [HQ2.out, HQ15.out, HQ1.out, HQ14.out] at hboth
      cases hboth
      have hA15 := HA13.out.under (hb14.trans (hb15.mono hb14.size))
      rw [HLM.out] at hA15
      have HA15 := Lib.hid hA15
      have hfr := HL15.out.front
      have hrm := HL15.out.room
      rw [← HLL.out] at hfr
      have hcL : L.length ≤ c15 := by have := HLL.out; simp at hrm; omega
      have cS1 := bsame_any hfr HA15.out
      rw [sameB_id] at cS1
      have HFR := Lib.hid hfr
      obtain ⟨nb, hnb⟩ : ∃ n, n = (aheadB p more ++ l14).length := ⟨_, rfl⟩
      rw [← hnb]
      have hnb2 : (nb : Int) = (l14.length : Int) + (L.length : Int) := by rw [hnb]; have := HLL.out; simp; omega
      have hnb3 : ((nb : Int) == (l14.length : Int) + (L.length : Int)) = true := by simpa using hnb2
      have hnb4 : nb ≤ c15 := by rw [hnb]; exact hrm
      have hnb5 : nb ≤ 2199023255552 := by rw [hnb]; exact HL15.out.len
      have HNB := Lib.hid hnb
      have HNB2 := Lib.hid hnb2
      have hle : L.length ≤ nb := by have := hnb2; omega
      have h14 : l14.length ≤ 2199023255552 := HL14.out.len
      have hLs : L.length ≤ 1048576 := by have := HLL.out; have := ahead_len p more; omega
      have hbk : ∀ W v, Below w15.heap.size w15 W → (Binds (fun _ => True) w15 v l14) → Calls Tryd.prog 12 #[v, .slice p14 l14.length c14] W fun e w' => e = .returned (.bool true) ∧ Below W.heap.size W w' := fun W v hb h => by
        have := bsame_any (h.under hb) ((HL14.out.under hb15).under hb)
        rwa [sameB_id] at this
      have HBK := Lib.hid hbk
      have tok3 : True := trivial
      clear hA15 hfit hfr hrm hnb hnb2 hbk
      by_cases hc0 : c15 = L.length
      · subst hc0
        have h0 : l14 = [] := List.eq_nil_of_length_eq_zero (by have := HNB2.out; omega)
        have hbb : Binds (fun _ => True) w15 (.slice p15 0 0) l14 := by
          rw [h0]; exact ⟨p15, 0, rfl, Nat.le_refl _, Nat.zero_le _, fun i hi => absurd hi (by simp), fun _ => rfl⟩
        have HBB := Lib.hid hbb
        clear h0 hbb
        go_wp2_with (first
          | (go_at_call 12; have _t := tok3; refine cS1.mono ?_; rintro e w16 ⟨rfl, hb16⟩; clear tok3)
          | (go_at_call 12; refine (HBK.out _ _ hb16 HBB.out).mono ?_; rintro e w17 ⟨rfl, hb17⟩; have hB17 := hB15.trans ((hb16.trans (hb17.mono hb16.size)).mono hB15.size))
          | (go_at_call 8; refine (cW _ hB17).mono ?_; rintro e w18 ⟨rfl, hb18⟩))
        go_ret
        exact HWK.out _ hB17 _ _ ⟨rfl, hb18⟩
      cases p15 with
      | none =>
        have h1 := HL15.out.none
        rw [List.length_append] at h1
        exact absurd (show c15 = L.length by have := HLL.out; omega) hc0
      | some ad =>
        have hbb : Binds (fun _ => True) w15 (.slice (some (ad.add (L.length * 6))) (nb - L.length) (c15 - L.length)) l14 := by
          have h1 := HL15.out.back
          rw [← HLL.out] at h1
          rwa [show nb - L.length = l14.length by have := HNB2.out; omega]
        have HBB := Lib.hid hbb
        clear hbb
        go_wp2_with (first
          | (go_at_call 12; have _t := tok3; refine cS1.mono ?_; rintro e w16 ⟨rfl, hb16⟩; clear tok3)
          | (go_at_call 12; refine (HBK.out _ _ hb16 HBB.out).mono ?_; rintro e w17 ⟨rfl, hb17⟩; have hB17 := hB15.trans ((hb16.trans (hb17.mono hb16.size)).mono hB15.size))
          | (go_at_call 8; refine (cW _ hB17).mono ?_; rintro e w18 ⟨rfl, hb18⟩))
        go_ret
        exact HWK.out _ hB17 _ _ ⟨rfl, hb18⟩
end Go.Proofs.YtmnjcbjfkaoeaaaDoor
