/-
  pleachref10.Goes: a pattern against a term, the document's. Conditions: the trees lie as 'TrV' says, the names as 'Binds'; the pattern and the term may be.
-/
import Derived.Test.YtlhobpknflobgaaGreatDoorS16
import Derived.Laws.AppendOwnNone
namespace Go.Proofs.YtlhobpknflobgaaGreatDoor
open Go.RowKit

def GoesSays (F : Nat → Prop) (p : Tr) : Prop := ∀ (x : Tr) (l : List Bd) (w : World) (pv xv v : Value), GoHyp F p x l w pv xv v →
    Calls Tryz.prog 84 #[.agg #[.int .i8 p.k, .int .i64 p.n, .string p.s, .string p.t, pv], .agg #[.int .i8 x.k, .int .i64 x.n, .string x.s, .string x.t, xv], v] w (ResPost F l p.nn (p.go x l) w)
theorem ownsRow_under {w w' : World} {base : Nat} {e : TypeId} {size : Nat} {v : Value} {n : Nat} {xs : List Value} (h : w.ownsRow base e size v n xs) (hb : Below w.heap.size w w') : w'.ownsRow base e size v n xs := by
  obtain ⟨h1, h2⟩ := h
  refine ⟨h1, ?_⟩
  rcases h2 with h2 | ⟨g, cap, cur, hv, hg, hh, r⟩
  · exact .inl h2
  · exact .inr ⟨g, cap, cur, hv, hg, (hb.block g (Array.getElem?_eq_some_iff.1 hh).1).trans hh, r⟩
theorem ownsRow_base {w : World} {base : Nat} {e : TypeId} {size : Nat} {v : Value} {n : Nat} {xs : List Value} (h : w.ownsRow base e size v n xs) : ∀ j, v.ownBlock = some j → base ≤ j := by
  intro j hj
  rcases h.2 with ⟨rfl, _⟩ | ⟨g, cap, cur, rfl, hg, _⟩
  · cases hj
  · cases hj; exact hg
theorem go_int {p x : Tr} {l : List Bd} (hk : p.k = 6) : p.go x l = if (x.k == 0 && x.n == p.n) = true then some l else none := by
  rw [go_eq, hk, if_neg (by decide), if_pos rfl]
  by_cases h0 : x.k = 0 <;> by_cases h1 : x.n = p.n <;> simp [h0, h1]
theorem go_atom {p x : Tr} {l : List Bd} (hk : p.k = 7) : p.go x l = if (x.k == 1 && x.s.toList == p.s.toList) = true then some l else none := by
  rw [go_eq, hk, if_neg (by decide), if_neg (by decide), if_pos rfl]
  by_cases h0 : x.k = 1 <;> cases h1 : (x.s.toList == p.s.toList) <;> simp [h0]
theorem go_nil {p x : Tr} {l : List Bd} (hk : p.k = 8) : p.go x l = if (x.k == 6) = true then some l else none := by
  rw [go_eq, hk, if_neg (by decide), if_neg (by decide), if_neg (by decide), if_pos rfl]
  by_cases h0 : x.k = 6 <;> simp [h0]

/-- What the round knows. -/
def GRel (F : Nat → Prop) (p x : Tr) (l : List Bd) (w1 : World) (v2 i : Value) (wr : World) : Prop :=
  ∃ k : Nat, k ≤ p.l.length ∧ i = .int .i64 k ∧ ∃ l', Binds F wr v2 l' ∧ Below w1.heap.size w1 wr ∧ (∀ b ∈ l', chkT b.t = 0) ∧ l'.length + Tr.nn.nnl (p.l.drop k) ≤ l.length + Tr.nn.nnl p.l ∧ Tr.go.gol (p.l.drop k) (x.l.drop k) l' = p.go x l

set_option maxHeartbeats 8000000 in
set_option maxRecDepth 100000 in
theorem goes_any {F : Nat → Prop} (p : Tr) : GoesSays F p := by
  induction p using Tr.ind with
  | h p ih =>
    intro x l w pv xv v h
    have hsz : p.s.size ≤ BL * 64 := h.hp.wf.s
    have hlenl : l.length ≤ 1048575 := by have := h.len; have := nn_pos p; omega
    have hlen : p.l.length ≤ 2199023255552 := h.hp.kids.len
    have hlen2 : x.l.length ≤ 2199023255552 := h.hx.kids.len
    obtain ⟨p1, c1, rfl⟩ := h.hp.kids.slice
    obtain ⟨p2, c2, rfl⟩ := h.hx.kids.slice
    obtain ⟨pl, cl, rfl⟩ := h.hl.slice
    obtain ⟨n1, n2, hb1, hz1⟩ := two_new w (.cells #[.int .i8 p.k, .int .i64 p.n, .string p.s, .string p.t, .slice p1 p.l.length c1] 25) (.cells #[.int .i8 x.k, .int .i64 x.n, .string x.s, .string x.t, .slice p2 x.l.length c2] 29)
    obtain ⟨a0, a1, a2, a3, a4⟩ := node_heap n1
    obtain ⟨b0, b1, b2, b3, b4⟩ := node_heap n2
    simp only [Nat.zero_add] at a1 a2 a3 a4 b1 b2 b3 b4
    clear n1 n2
    have H := Lib.hid h
    have IH := Lib.hid ih
    clear h ih
    go_enter Tryz.func84, Tryz.ntmps84
    go_upto_region 1 with fail
    generalize (w.alloc (.cells #[.int .i8 p.k, .int .i64 p.n, .string p.s, .string p.t, .slice p1 p.l.length c1] 25)).alloc (.cells #[.int .i8 x.k, .int .i64 x.n, .string x.s, .string x.t, .slice p2 x.l.length c2] 29) = w1 at hb1 hz1 a0 a1 a2 a3 a4 b0 b1 b2 b3 b4 ⊢
    have hlt0 : w.heap.size < w1.heap.size := by omega
    have hlt1 : w.heap.size + 1 < w1.heap.size := by omega
    have HZ0 := Lib.hid hlt0
    have HZ1 := Lib.hid hlt1
    clear hz1 hlt0 hlt1
    rcases pat_kind H.out.pat with hk | hk | hk | hk | hk | hk
    · have hG := go_var (x := x) (l := l) hk
      rw [hk] at a0
      clear hk
      cases hu : undB p.s
      rotate_left 1
      · rw [hu, if_pos rfl] at hG
        have hu' : (p.s.toList == [95]) = true := hu
        have HG := Lib.hid hG
        clear hG hu
        go_wp2_with fail
        go_ret2
        exact ⟨_, l, true, rfl, H.out.hl.under hb1, hb1, H.out.chl, by omega, HG.out⟩
      have hu' : (p.s.toList == [95]) = false := hu
      rw [hu] at hG
      simp only [Bool.false_eq_true, if_false] at hG
      have cF := rfind_any (s := p.s) (H.out.hl.under hb1)
      clear hu
      go_upto_region 6 with (go_at_call 131; refine cF.mono ?_; rintro e w5 ⟨y, yv, rfl, hy, hye, hb5⟩; obtain ⟨p3, c3, rfl⟩ := hy.kids.slice; have HY := Lib.hid hye; clear hye)
      have hb6 := alloc_below w5 (.cells #[.int .i8 y.k, .int .i64 y.n, .string y.s, .string y.t, .slice p3 y.l.length c3] 29)
      obtain ⟨q0, q1, q2, q3, q4⟩ := box5 w5 (.int .i8 y.k) (.int .i64 y.n) (.string y.s) (.string y.t) (.slice p3 y.l.length c3) 29
      have hb16 := hb5.trans (hb6.mono hb5.size)
      have hB := hb1.trans (hb16.mono hb1.size)
      have hy6 := hy.below hb6
      generalize w5.alloc (.cells #[.int .i8 y.k, .int .i64 y.n, .string y.s, .string y.t, .slice p3 y.l.length c3] 29) = w6 at hb6 q0 q1 q2 q3 q4 hb16 hB hy6 ⊢
      have hk6 : ∀ o u, w1.cell? ⟨w.heap.size, o, none⟩ = some u → w6.cell? ⟨w.heap.size, o, none⟩ = some u := fun o u h => (hb16.cell (p := ⟨w.heap.size, o, none⟩) (cell_block h)).trans h
      have hk7 : ∀ o u, w1.cell? ⟨w.heap.size + 1, o, none⟩ = some u → w6.cell? ⟨w.heap.size + 1, o, none⟩ = some u := fun o u h => (hb16.cell (p := ⟨w.heap.size + 1, o, none⟩) (cell_block h)).trans h
      have a2 := hk6 _ _ a2
      have b0 := hk7 _ _ b0
      have b1 := hk7 _ _ b1
      have b2 := hk7 _ _ b2
      have b3 := hk7 _ _ b3
      have b4 := hk7 _ _ b4
      have hx6 := H.out.hx.below hB
      have hl6 := H.out.hl.under hB
      clear hk6 hk7 a0 a1 a3 a4 hy hb5 hb6 cF
      cases hf : bfind l p.s with
      | some y0 =>
        have hyx : y = y0 := by rw [HY.out, hf]; rfl
        subst hyx
        have cS := rsame_any y x w6 _ _ hy6 hx6
        rw [hf] at hG
        have HG := Lib.hid hG
        clear hG hf HY
        simp only [Option.isSome_some]
        go_wp2_with (go_at_call 25; refine cS.mono ?_; rintro e w7 ⟨rfl, hb7⟩)
        go_ret2
        have hB7 := hB.trans (hb7.mono hB.size)
        refine ⟨_, l, _, rfl, H.out.hl.under hB7, hB7, H.out.chl, by omega, ?_⟩
        rw [HG.out]
      | none =>
        rw [hf] at hG
        have HG := Lib.hid hG
        clear hG hf HY
        simp only [Option.isSome_none]
        obtain ⟨L, hLm, hLt, hLc⟩ := hl6.cells
        have hLl : L.length = l.length := by rw [← hLm, List.length_map]
        obtain ⟨i0, hi, hz0, hz1, hz2⟩ := info_parts infoBind
        have hpl : ∀ u ∈ L.flatMap bcells, u.oneCell' = true := by
          intro u hu
          obtain ⟨q, hq, hu⟩ := List.mem_flatMap.1 hu
          exact bcells_plain (hLt q hq).1 u hu
        have HX := Lib.hid hx6
        have HLm := Lib.hid hLm
        have HLt := Lib.hid hLt
        have HLl := Lib.hid hLl
        have HP := Lib.hid hpl
        clear hLm hLt hLl hpl
        cases pl with
        | none =>
          have hno := hl6.none
          have hL0 : L = [] := List.eq_nil_of_length_eq_zero (by have := HLl.out; omega)
          obtain ⟨hl0, hc0⟩ := hno
          subst hc0
          have hown7 : w6.ownsRow w6.heap.size 40 6 (.slice none 0 0) l.length (L.flatMap bcells) := by rw [hL0, hl0]; exact World.ownsRow_nil ..
          rw [hl0]
          go_upto_region 10 with (at_builtin; refine wpList_append_own_none rfl (.tmp 34) (.tmp 35) 26 rfl w6.heap.size 40 i0 6 Tryz.underlying26 hi (.slice none 0 0) l.length (L.flatMap bcells) rfl hown7 rfl ?_)
          obtain ⟨w7, hown7, hb7, hw7⟩ : ∃ w7, w7.ownsRow w6.heap.size 40 6 (.slice none 0 0) l.length (L.flatMap bcells) ∧ Below w6.heap.size w6 w7 ∧ w7 = w6 := ⟨w6, hown7, Below.refl _ _, rfl⟩
          rw [← hw7]
          clear hw7
          have f6 : ∀ g o u, w6.cell? ⟨g, o, none⟩ = some u → w7.cell? ⟨g, o, none⟩ = some u := fun g o u h => (hb7.cell (p := ⟨g, o, none⟩) (cell_block h)).trans h
          have a2 := f6 _ _ _ a2
          have b0 := f6 _ _ _ b0
          have b1 := f6 _ _ _ b1
          have b2 := f6 _ _ _ b2
          have b3 := f6 _ _ _ b3
          have b4 := f6 _ _ _ b4
          have hown9 := ownsRow_under hown7 (alloc_below w7 (.cells (bcells (⟨p.s, x⟩, .slice p2 x.l.length c2)).toArray 40))
          have hsz7 := hb7.size
          clear f6
          go_wp2_with (at_builtin; refine wpList_append_own _ rfl (.tmp 37) (.tmp 42) 26 rfl w6.heap.size 40 i0 _ 6 88 Tryz.underlying26 hi hz0 hz1 hz2 rfl (by decide) _ l.length (L.flatMap bcells) rfl hown9 ⟨w7.heap.size, 0, none⟩ 1 1 (bcells (⟨p.s, x⟩, .slice p2 x.l.length c2)) rfl rfl (cells_at_new w7 (bcells (⟨p.s, x⟩, .slice p2 x.l.length c2)) 40) (bcells_plain (F := F) (q := (⟨p.s, x⟩, .slice p2 x.l.length c2)) HX.out) (by unfold maxLen; omega) (by omega) (by simp; omega) ?_; intro v8 w8 hown8 hgrow8 hnil8)
          have hB8 : Below w6.heap.size w6 w8 := ((hb7.alloc hb7.size _)).grown hgrow8 (by have := hb7.size; simp; omega) (fun j hj => (ownsRow_base hown7 j hj))
          have hB9 := hB.trans (hB8.mono hB.size)
          have hbl : Binds F w8 v8 ((L ++ [((⟨p.s, x⟩ : Bd), Value.slice p2 x.l.length c2)]).map fun q : Bd × Value => q.1) := by
            refine binds_row (base := w6.heap.size) (T := 40) ?_ (fun k hk => H.out.fr k (by have := hB.size; omega)) (fun q hq => ?_) (by rw [List.length_append, HLl.out]; unfold BL; simp; omega)
            · simpa [HLl.out] using hown8
            · rcases List.mem_append.1 hq with hq | hq
              · have := HLt.out q hq
                exact ⟨this.1.below hB8, this.2⟩
              · simp only [List.mem_singleton] at hq
                subst hq
                exact ⟨HX.out.below hB8, hsz⟩
          obtain ⟨p8, c8, rfl⟩ := hbl.slice
          go_ret2
          refine ⟨_, _, true, rfl, hbl, hB9, fun b hb => ?_, ?_, ?_⟩
          · rw [List.map_append, HLm.out] at hb
            rcases List.mem_append.1 hb with hb | hb
            · exact H.out.chl b hb
            · simp only [List.map_cons, List.map_nil, List.mem_singleton] at hb
              subst hb
              exact H.out.chk
          · rw [List.length_map, List.length_append, HLl.out]
            have := nn_pos p
            simp; omega
          · rw [HG.out, List.map_append, HLm.out]; rfl
        | some ad =>
          go_upto_region 10 with (at_builtin; refine wpList_append_own _ rfl (.tmp 34) (.tmp 35) 26 rfl w6.heap.size 40 i0 _ 6 88 Tryz.underlying26 hi hz0 hz1 hz2 rfl (by decide) (.slice none 0 0) 0 [] rfl (World.ownsRow_nil ..) ad l.length cl (L.flatMap bcells) rfl (by rw [flat6_len, HLl.out]) (hLc ad rfl) HP.out (by unfold maxLen; omega) (by omega) (Nat.le_refl _) ?_; intro v7 w7 hown7 hgrow7 hnil7; simp only [Nat.zero_add, List.nil_append] at hown7)
          have hb7 : Below w6.heap.size w6 w7 := (Below.refl _ _).grown hgrow7 (Nat.le_refl _) (fun j hj => by cases hj)
          clear hgrow7 hnil7
          have f6 : ∀ g o u, w6.cell? ⟨g, o, none⟩ = some u → w7.cell? ⟨g, o, none⟩ = some u := fun g o u h => (hb7.cell (p := ⟨g, o, none⟩) (cell_block h)).trans h
          have a2 := f6 _ _ _ a2
          have b0 := f6 _ _ _ b0
          have b1 := f6 _ _ _ b1
          have b2 := f6 _ _ _ b2
          have b3 := f6 _ _ _ b3
          have b4 := f6 _ _ _ b4
          have hown9 := ownsRow_under hown7 (alloc_below w7 (.cells (bcells (⟨p.s, x⟩, .slice p2 x.l.length c2)).toArray 40))
          have hsz7 := hb7.size
          clear f6
          go_wp2_with (at_builtin; refine wpList_append_own _ rfl (.tmp 37) (.tmp 42) 26 rfl w6.heap.size 40 i0 _ 6 88 Tryz.underlying26 hi hz0 hz1 hz2 rfl (by decide) _ l.length (L.flatMap bcells) rfl hown9 ⟨w7.heap.size, 0, none⟩ 1 1 (bcells (⟨p.s, x⟩, .slice p2 x.l.length c2)) rfl rfl (cells_at_new w7 (bcells (⟨p.s, x⟩, .slice p2 x.l.length c2)) 40) (bcells_plain (F := F) (q := (⟨p.s, x⟩, .slice p2 x.l.length c2)) HX.out) (by unfold maxLen; omega) (by omega) (by simp; omega) ?_; intro v8 w8 hown8 hgrow8 hnil8)
          have hB8 : Below w6.heap.size w6 w8 := ((hb7.alloc hb7.size _)).grown hgrow8 (by have := hb7.size; simp; omega) (fun j hj => (ownsRow_base hown7 j hj))
          have hB9 := hB.trans (hB8.mono hB.size)
          have hbl : Binds F w8 v8 ((L ++ [((⟨p.s, x⟩ : Bd), Value.slice p2 x.l.length c2)]).map fun q : Bd × Value => q.1) := by
            refine binds_row (base := w6.heap.size) (T := 40) ?_ (fun k hk => H.out.fr k (by have := hB.size; omega)) (fun q hq => ?_) (by rw [List.length_append, HLl.out]; unfold BL; simp; omega)
            · simpa [HLl.out] using hown8
            · rcases List.mem_append.1 hq with hq | hq
              · have := HLt.out q hq
                exact ⟨this.1.below hB8, this.2⟩
              · simp only [List.mem_singleton] at hq
                subst hq
                exact ⟨HX.out.below hB8, hsz⟩
          obtain ⟨p8, c8, rfl⟩ := hbl.slice
          go_ret2
          refine ⟨_, _, true, rfl, hbl, hB9, fun b hb => ?_, ?_, ?_⟩
          · rw [List.map_append, HLm.out] at hb
            rcases List.mem_append.1 hb with hb | hb
            · exact H.out.chl b hb
            · simp only [List.map_cons, List.map_nil, List.mem_singleton] at hb
              subst hb
              exact H.out.chk
          · rw [List.length_map, List.length_append, HLl.out]
            have := nn_pos p
            simp; omega
          · rw [HG.out, List.map_append, HLm.out]; rfl
    · have hG := go_int (x := x) (l := l) hk
      rw [hk] at a0
      clear hk
      have HG := Lib.hid hG
      clear hG
      cases e1 : (x.k == 0)
      · have d1 : decide (x.k = 0) = false := by simpa using e1
        go_wp2_with fail
        go_quiet (fail)
        go_wp2
        go_ret2
        exact ⟨_, l, false, rfl, H.out.hl.under (by first | exact hb1.drew | exact below_drewN hb1 _), by first | exact hb1.drew | exact below_drewN hb1 _, H.out.chl, by omega, by rw [HG.out, e1] <;> rfl⟩
      have d1 : decide (x.k = 0) = true := by simpa using e1
      cases e2 : (x.n == p.n)
      case' false => have d2 : decide (x.n = p.n) = false := by simpa using e2
      case' true => have d2 : decide (x.n = p.n) = true := by simpa using e2
      all_goals
        go_wp2_with fail
        go_quiet (fail)
        go_wp2
        go_ret2
        exact ⟨_, l, _, rfl, H.out.hl.under (by first | exact hb1.drew | exact below_drewN hb1 _), by first | exact hb1.drew | exact below_drewN hb1 _, H.out.chl, by omega, by rw [HG.out, e1, e2] <;> rfl⟩
    · have hG := go_atom (x := x) (l := l) hk
      rw [hk] at a0
      clear hk
      have HG := Lib.hid hG
      clear hG
      cases e1 : (x.k == 1)
      · have d1 : decide (x.k = 1) = false := by simpa using e1
        go_wp2_with fail
        go_quiet (fail)
        go_wp2
        go_ret2
        exact ⟨_, l, false, rfl, H.out.hl.under (by first | exact hb1.drew | exact below_drewN hb1 _), by first | exact hb1.drew | exact below_drewN hb1 _, H.out.chl, by omega, by rw [HG.out, e1] <;> rfl⟩
      have d1 : decide (x.k = 1) = true := by simpa using e1
      cases e2 : (x.s.toList == p.s.toList)
      all_goals
        go_wp2_with fail
        go_quiet (fail)
        go_wp2
        go_ret2
        exact ⟨_, l, _, rfl, H.out.hl.under (by first | exact hb1.drew | exact below_drewN hb1 _), by first | exact hb1.drew | exact below_drewN hb1 _, H.out.chl, by omega, by rw [HG.out, e1, e2] <;> rfl⟩
    · have hG := go_nil (x := x) (l := l) hk
      rw [hk] at a0
      clear hk
      have HG := Lib.hid hG
      clear hG
      cases e1 : (x.k == 6)
      · have d1 : decide (x.k = 6) = false := by simpa using e1
        go_wp2_with fail
        go_quiet (fail)
        go_wp2
        go_ret2
        exact ⟨_, l, false, rfl, H.out.hl.under (by first | exact hb1.drew | exact below_drewN hb1 _), by first | exact hb1.drew | exact below_drewN hb1 _, H.out.chl, by omega, by rw [HG.out, e1] <;> rfl⟩
      have d1 : decide (x.k = 6) = true := by simpa using e1
      all_goals
        go_wp2_with fail
        go_quiet (fail)
        go_wp2
        go_ret2
        exact ⟨_, l, _, rfl, H.out.hl.under (by first | exact hb1.drew | exact below_drewN hb1 _), by first | exact hb1.drew | exact below_drewN hb1 _, H.out.chl, by omega, by rw [HG.out, e1] <;> rfl⟩
    · have hpl := pat_kids H.out.pat (by simp [hk])
      have HPL := Lib.hid hpl
      have hG : p.go x l = if x.k = 7 then Tr.go.gol p.l x.l l else none := by rw [go_eq, hk]; rfl
      have hlp : p.l.length = 2 := by
        have hc := pat_cases H.out.pat
        rw [hk] at hc
        simp at hc
        exact hc.1
      rw [hk] at a0
      clear hk hpl
      cases e1 : (x.k == 7)
      · have g1 : (x.k != 7) = true := by simpa using e1
        have HG : Hid (p.go x l = none) := by unfold Hid; rw [hG, if_neg (by simpa using e1)]
        clear e1 hG hlp
        go_wp2_with fail
        go_ret2
        exact ⟨_, l, false, rfl, H.out.hl.under hb1, hb1, H.out.chl, by omega, HG.out⟩
      have g1 : (x.k != 7) = false := by simpa using e1
      have hk7 : x.k = 7 := by simpa using e1
      have HG : Hid (p.go x l = Tr.go.gol p.l x.l l) := by unfold Hid; rw [hG, if_pos hk7]
      have hll : x.l.length = p.l.length := by rw [(one_cases (chk_one H.out.chk)).2.2.2 hk7, hlp]
      have HLL := Lib.hid hll
      clear e1 hG hk7 hll hlp
      go_wp2_with fail
      clear a0 a1 a2 a3 b0 b1 b2 b3
      go_loopw [2, 11] (fun v2 i wr => GRel F p x l w1 v2 i wr) (fun _ i _ => p.l.length - (intOf i).toNat)
      case atStart => exact ⟨0, Nat.zero_le _, rfl, l, H.out.hl.under hb1, Below.refl _ _, H.out.chl, Nat.le_refl _, HG.out.symm⟩
      case round =>
        obtain ⟨k, hk, rfl, l', hl', hbr, hcl, hnl, hgo⟩ := hrel
        have HCL := Lib.hid hcl
        have HNL := Lib.hid hnl
        have HGO := Lib.hid hgo
        clear hcl hnl hgo
        have hB := hb1.trans (hbr.mono hb1.size)
        obtain ⟨pl2, cl2, rfl⟩ := hl'.slice
        have a4r := (hbr.cell (p := ⟨w.heap.size, 4, none⟩) HZ0.out).trans a4
        have b4r := (hbr.cell (p := ⟨w.heap.size + 1, 4, none⟩) HZ1.out).trans b4
        by_cases hlt : k < p.l.length
        · have hltx : k < x.l.length := by have := HLL.out; omega
          obtain ⟨g, o, qv, rfl, _, hnode, hkid⟩ := (H.out.hp.kids.under hB).at hlt
          obtain ⟨g2, o2, yv, rfl, _, hnodex, hkidx⟩ := (H.out.hx.kids.under hB).at hltx
          obtain ⟨p3, c3, rfl⟩ := hkid.kids.slice
          obtain ⟨p4, c4, rfl⟩ := hkidx.kids.slice
          have hd : Below wr.heap.size wr wr.drew := below_drewN (Below.refl _ _) 1
          have hBd := hB.trans (hd.mono hB.size)
          have cK := IH.out p.l[k] (List.getElem_mem hlt) x.l[k] l' wr.drew _ _ _ (H.out.at hBd hlt hltx HPL.out (hkid.below hd) (hkidx.below hd) (hl'.under hd) HCL.out HNL.out)
          have hS : ∀ W : World, Below wr.heap.size wr W → W.cell? ⟨w.heap.size, 4, none⟩ = some (.slice (some ⟨g, o, none⟩) p.l.length c1) ∧ W.cell? ⟨w.heap.size + 1, 4, none⟩ = some (.slice (some ⟨g2, o2, none⟩) x.l.length c2) ∧ W.cell? ⟨g, o + k * 5, none⟩ = some (.int .i8 p.l[k].k) ∧ W.cell? ⟨g, o + k * 5 + 1, none⟩ = some (.int .i64 p.l[k].n) ∧ W.cell? ⟨g, o + k * 5 + 2, none⟩ = some (.string p.l[k].s) ∧ W.cell? ⟨g, o + k * 5 + 3, none⟩ = some (.string p.l[k].t) ∧ W.cell? ⟨g, o + k * 5 + 4, none⟩ = some (.slice p3 p.l[k].l.length c3) ∧
              W.cell? ⟨g2, o2 + k * 5, none⟩ = some (.int .i8 x.l[k].k) ∧ W.cell? ⟨g2, o2 + k * 5 + 1, none⟩ = some (.int .i64 x.l[k].n) ∧ W.cell? ⟨g2, o2 + k * 5 + 2, none⟩ = some (.string x.l[k].s) ∧ W.cell? ⟨g2, o2 + k * 5 + 3, none⟩ = some (.string x.l[k].t) ∧ W.cell? ⟨g2, o2 + k * 5 + 4, none⟩ = some (.slice p4 x.l[k].l.length c4) := by
            intro W hb
            obtain ⟨x0, x1, x2, x3, x4⟩ := hnode.keep (hb.block g hnode.lt)
            obtain ⟨y0, y1, y2, y3, y4⟩ := hnodex.keep (hb.block g2 hnodex.lt)
            exact ⟨(hb.cell (p := ⟨w.heap.size, 4, none⟩) (cell_block a4r)).trans a4r, (hb.cell (p := ⟨w.heap.size + 1, 4, none⟩) (cell_block b4r)).trans b4r, x0, x1, x2, x3, x4, y0, y1, y2, y3, y4⟩
          have hS0 := hS wr (Below.refl _ _)
          have HL' := Lib.hid hl'
          clear hnode hnodex hkid hkidx hl'
          go_upto_region 26 with fail
          go_region_held3 (fun W => W.cell? ⟨w.heap.size, 4, none⟩ = some (.slice (some ⟨g, o, none⟩) p.l.length c1) ∧ W.cell? ⟨w.heap.size + 1, 4, none⟩ = some (.slice (some ⟨g2, o2, none⟩) x.l.length c2) ∧ W.cell? ⟨g, o + k * 5, none⟩ = some (.int .i8 p.l[k].k) ∧ W.cell? ⟨g, o + k * 5 + 1, none⟩ = some (.int .i64 p.l[k].n) ∧ W.cell? ⟨g, o + k * 5 + 2, none⟩ = some (.string p.l[k].s) ∧ W.cell? ⟨g, o + k * 5 + 3, none⟩ = some (.string p.l[k].t) ∧ W.cell? ⟨g, o + k * 5 + 4, none⟩ = some (.slice p3 p.l[k].l.length c3) ∧
              W.cell? ⟨g2, o2 + k * 5, none⟩ = some (.int .i8 x.l[k].k) ∧ W.cell? ⟨g2, o2 + k * 5 + 1, none⟩ = some (.int .i64 x.l[k].n) ∧ W.cell? ⟨g2, o2 + k * 5 + 2, none⟩ = some (.string x.l[k].s) ∧ W.cell? ⟨g2, o2 + k * 5 + 3, none⟩ = some (.string x.l[k].t) ∧ W.cell? ⟨g2, o2 + k * 5 + 4, none⟩ = some (.slice p4 x.l[k].l.length c4)) (first | exact hS0 | exact hS1) (first
            | (go_at_call 84; refine cK.mono ?_; rintro e w9 ⟨v9, l9, ok9, rfl, hl9, hb9, hc9, hn9, hr9⟩; obtain ⟨p9, c9, rfl⟩ := hl9.slice; have hS1 := hS _ (hd.trans (hb9.mono hd.size))))
          have hB9 := hBd.trans (hb9.mono hBd.size)
          have hb19 := hbr.trans ((hd.trans (hb9.mono hd.size)).mono hbr.size)
          have hnext := HGO.out
          rw [gol_take hlt hltx, hr9] at hnext
          cases ok9
          · have HF : Hid (p.go x l = none) := hnext.symm
            clear hnext
            go_wp2
            go_ret2
            exact ⟨_, l', false, rfl, HL'.out.under (hd.trans (hb9.mono hd.size)), hB9, HCL.out, by have := HNL.out; rw [nn_eq]; omega, HF.out⟩
          · have HF := Lib.hid (show Tr.go.gol (p.l.drop (k + 1)) (x.l.drop (k + 1)) l9 = p.go x l from hnext)
            clear hnext
            go_wp2
            go_roundw
            case rel =>
              refine ⟨k + 1, hlt, by go_num, l9, hl9, hb19, hc9, ?_, HF.out⟩
              have h1 := HNL.out
              rw [nnl_drop hlt] at h1
              omega
            case measure => simp [intOf]; omega
        · have hfin := HGO.out
          rw [gol_end (by omega)] at hfin
          have HF : Hid (p.go x l = some l') := hfin.symm
          clear hfin
          go_wp2
          go_ret2
          exact ⟨_, l', true, rfl, hl', hB, HCL.out, by have := HNL.out; rw [nn_eq]; omega, HF.out⟩
    · have hpl := pat_kids H.out.pat (by simp [hk])
      have HPL := Lib.hid hpl
      have hG : p.go x l = if x.k = 5 ∧ (x.l.length : Int) = p.l.length then Tr.go.gol p.l x.l l else none := by rw [go_eq, hk]; rfl
      rw [hk] at a0
      clear hk hpl
      cases e1 : (x.k == 5)
      · have g1 : (x.k != 5) = true := by simpa using e1
        have HG : Hid (p.go x l = none) := by unfold Hid; rw [hG, if_neg (fun h => absurd h.1 (by simpa using e1))]
        clear e1 hG
        go_wp2_with fail
        go_ret2
        exact ⟨_, l, false, rfl, H.out.hl.under hb1, hb1, H.out.chl, by omega, HG.out⟩
      have g1 : (x.k != 5) = false := by simpa using e1
      have hk5 : x.k = 5 := by simpa using e1
      cases e2 : ((x.l.length : Int) == (p.l.length : Int))
      · have g2 : ((x.l.length : Int) != (p.l.length : Int)) = true := by simpa using e2
        have HG : Hid (p.go x l = none) := by unfold Hid; rw [hG, if_neg (fun h => absurd h.2 (by simpa using e2))]
        clear e1 e2 hG hk5
        go_wp2_with fail
        go_ret2
        exact ⟨_, l, false, rfl, H.out.hl.under hb1, hb1, H.out.chl, by omega, HG.out⟩
      have g2 : ((x.l.length : Int) != (p.l.length : Int)) = false := by simpa using e2
      have hll : x.l.length = p.l.length := by simp at e2; omega
      have HG : Hid (p.go x l = Tr.go.gol p.l x.l l) := by unfold Hid; rw [hG, if_pos ⟨hk5, by omega⟩]
      have HLL := Lib.hid hll
      clear e1 e2 hG hk5 hll
      go_wp2_with fail
      clear a0 a1 a2 a3 b0 b1 b2 b3
      go_loopw [2, 11] (fun v2 i wr => GRel F p x l w1 v2 i wr) (fun _ i _ => p.l.length - (intOf i).toNat)
      case atStart => exact ⟨0, Nat.zero_le _, rfl, l, H.out.hl.under hb1, Below.refl _ _, H.out.chl, Nat.le_refl _, HG.out.symm⟩
      case round =>
        obtain ⟨k, hk, rfl, l', hl', hbr, hcl, hnl, hgo⟩ := hrel
        have HCL := Lib.hid hcl
        have HNL := Lib.hid hnl
        have HGO := Lib.hid hgo
        clear hcl hnl hgo
        have hB := hb1.trans (hbr.mono hb1.size)
        obtain ⟨pl2, cl2, rfl⟩ := hl'.slice
        have a4r := (hbr.cell (p := ⟨w.heap.size, 4, none⟩) HZ0.out).trans a4
        have b4r := (hbr.cell (p := ⟨w.heap.size + 1, 4, none⟩) HZ1.out).trans b4
        by_cases hlt : k < p.l.length
        · have hltx : k < x.l.length := by have := HLL.out; omega
          obtain ⟨g, o, qv, rfl, _, hnode, hkid⟩ := (H.out.hp.kids.under hB).at hlt
          obtain ⟨g2, o2, yv, rfl, _, hnodex, hkidx⟩ := (H.out.hx.kids.under hB).at hltx
          obtain ⟨p3, c3, rfl⟩ := hkid.kids.slice
          obtain ⟨p4, c4, rfl⟩ := hkidx.kids.slice
          have hd : Below wr.heap.size wr wr.drew := below_drewN (Below.refl _ _) 1
          have hBd := hB.trans (hd.mono hB.size)
          have cK := IH.out p.l[k] (List.getElem_mem hlt) x.l[k] l' wr.drew _ _ _ (H.out.at hBd hlt hltx HPL.out (hkid.below hd) (hkidx.below hd) (hl'.under hd) HCL.out HNL.out)
          have hS : ∀ W : World, Below wr.heap.size wr W → W.cell? ⟨w.heap.size, 4, none⟩ = some (.slice (some ⟨g, o, none⟩) p.l.length c1) ∧ W.cell? ⟨w.heap.size + 1, 4, none⟩ = some (.slice (some ⟨g2, o2, none⟩) x.l.length c2) ∧ W.cell? ⟨g, o + k * 5, none⟩ = some (.int .i8 p.l[k].k) ∧ W.cell? ⟨g, o + k * 5 + 1, none⟩ = some (.int .i64 p.l[k].n) ∧ W.cell? ⟨g, o + k * 5 + 2, none⟩ = some (.string p.l[k].s) ∧ W.cell? ⟨g, o + k * 5 + 3, none⟩ = some (.string p.l[k].t) ∧ W.cell? ⟨g, o + k * 5 + 4, none⟩ = some (.slice p3 p.l[k].l.length c3) ∧
              W.cell? ⟨g2, o2 + k * 5, none⟩ = some (.int .i8 x.l[k].k) ∧ W.cell? ⟨g2, o2 + k * 5 + 1, none⟩ = some (.int .i64 x.l[k].n) ∧ W.cell? ⟨g2, o2 + k * 5 + 2, none⟩ = some (.string x.l[k].s) ∧ W.cell? ⟨g2, o2 + k * 5 + 3, none⟩ = some (.string x.l[k].t) ∧ W.cell? ⟨g2, o2 + k * 5 + 4, none⟩ = some (.slice p4 x.l[k].l.length c4) := by
            intro W hb
            obtain ⟨x0, x1, x2, x3, x4⟩ := hnode.keep (hb.block g hnode.lt)
            obtain ⟨y0, y1, y2, y3, y4⟩ := hnodex.keep (hb.block g2 hnodex.lt)
            exact ⟨(hb.cell (p := ⟨w.heap.size, 4, none⟩) (cell_block a4r)).trans a4r, (hb.cell (p := ⟨w.heap.size + 1, 4, none⟩) (cell_block b4r)).trans b4r, x0, x1, x2, x3, x4, y0, y1, y2, y3, y4⟩
          have hS0 := hS wr (Below.refl _ _)
          have HL' := Lib.hid hl'
          clear hnode hnodex hkid hkidx hl'
          go_upto_region 26 with fail
          go_region_held3 (fun W => W.cell? ⟨w.heap.size, 4, none⟩ = some (.slice (some ⟨g, o, none⟩) p.l.length c1) ∧ W.cell? ⟨w.heap.size + 1, 4, none⟩ = some (.slice (some ⟨g2, o2, none⟩) x.l.length c2) ∧ W.cell? ⟨g, o + k * 5, none⟩ = some (.int .i8 p.l[k].k) ∧ W.cell? ⟨g, o + k * 5 + 1, none⟩ = some (.int .i64 p.l[k].n) ∧ W.cell? ⟨g, o + k * 5 + 2, none⟩ = some (.string p.l[k].s) ∧ W.cell? ⟨g, o + k * 5 + 3, none⟩ = some (.string p.l[k].t) ∧ W.cell? ⟨g, o + k * 5 + 4, none⟩ = some (.slice p3 p.l[k].l.length c3) ∧
              W.cell? ⟨g2, o2 + k * 5, none⟩ = some (.int .i8 x.l[k].k) ∧ W.cell? ⟨g2, o2 + k * 5 + 1, none⟩ = some (.int .i64 x.l[k].n) ∧ W.cell? ⟨g2, o2 + k * 5 + 2, none⟩ = some (.string x.l[k].s) ∧ W.cell? ⟨g2, o2 + k * 5 + 3, none⟩ = some (.string x.l[k].t) ∧ W.cell? ⟨g2, o2 + k * 5 + 4, none⟩ = some (.slice p4 x.l[k].l.length c4)) (first | exact hS0 | exact hS1) (first
            | (go_at_call 84; refine cK.mono ?_; rintro e w9 ⟨v9, l9, ok9, rfl, hl9, hb9, hc9, hn9, hr9⟩; obtain ⟨p9, c9, rfl⟩ := hl9.slice; have hS1 := hS _ (hd.trans (hb9.mono hd.size))))
          have hB9 := hBd.trans (hb9.mono hBd.size)
          have hb19 := hbr.trans ((hd.trans (hb9.mono hd.size)).mono hbr.size)
          have hnext := HGO.out
          rw [gol_take hlt hltx, hr9] at hnext
          cases ok9
          · have HF : Hid (p.go x l = none) := hnext.symm
            clear hnext
            go_wp2
            go_ret2
            exact ⟨_, l', false, rfl, HL'.out.under (hd.trans (hb9.mono hd.size)), hB9, HCL.out, by have := HNL.out; rw [nn_eq]; omega, HF.out⟩
          · have HF := Lib.hid (show Tr.go.gol (p.l.drop (k + 1)) (x.l.drop (k + 1)) l9 = p.go x l from hnext)
            clear hnext
            go_wp2
            go_roundw
            case rel =>
              refine ⟨k + 1, hlt, by go_num, l9, hl9, hb19, hc9, ?_, HF.out⟩
              have h1 := HNL.out
              rw [nnl_drop hlt] at h1
              omega
            case measure => simp [intOf]; omega
        · have hfin := HGO.out
          rw [gol_end (by omega)] at hfin
          have HF : Hid (p.go x l = some l') := hfin.symm
          clear hfin
          go_wp2
          go_ret2
          exact ⟨_, l', true, rfl, hl', hB, HCL.out, by have := HNL.out; rw [nn_eq]; omega, HF.out⟩
end Go.Proofs.YtlhobpknflobgaaGreatDoor
