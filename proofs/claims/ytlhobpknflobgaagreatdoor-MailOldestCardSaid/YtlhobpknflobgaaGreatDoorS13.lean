/-
  match.same, match.name. Conditions: the trees lie as 'TrV' says, the names as 'Binds'; the pattern and the term may be.
  match.leaf, leaf$1, whole. Conditions: the trees lie as 'TrV' says.
-/
import Derived.Test.YtlhobpknflobgaaGreatDoorS12
namespace Go.Proofs.YtlhobpknflobgaaGreatDoor
open Go.RowKit

set_option maxHeartbeats 2000000 in
theorem msame_any {F G : Nat → Prop} {x y : Tr} {w : World} {sv tv : Value} (hL : Letters w) (hx : TrV F w x sv) (hy : TrV G w y tv) :
    Calls Tryz.prog 216 #[.agg #[.int .i8 x.k, .int .i64 x.n, .string x.s, .string x.t, sv], .agg #[.int .i8 y.k, .int .i64 y.n, .string y.s, .string y.t, tv]] w fun e w' => e = .returned (.bool (cmpT x y == 0)) ∧ Below w.heap.size w w' := by
  obtain ⟨p, c, rfl⟩ := hx.kids.slice
  obtain ⟨p2, c2, rfl⟩ := hy.kids.slice
  obtain ⟨n1, n2, hb1, hz1⟩ := two_new w (.cells #[.int .i8 x.k, .int .i64 x.n, .string x.s, .string x.t, .slice p x.l.length c] 29) (.cells #[.int .i8 y.k, .int .i64 y.n, .string y.s, .string y.t, .slice p2 y.l.length c2] 29)
  obtain ⟨a0, a1, a2, a3, a4⟩ := node_heap n1
  obtain ⟨b0, b1, b2, b3, b4⟩ := node_heap n2
  simp only [Nat.zero_add] at a1 a2 a3 a4 b1 b2 b3 b4
  have cC := compare_any (hL.under hb1) (hx.below hb1) (hy.below hb1)
  clear hx hy n1 n2 hL
  go_enter Tryz.func216, Tryz.ntmps216
  go_wp2_with (go_at_call 102; refine cC.mono ?_; rintro e w5 ⟨rfl, hb5⟩)
  go_ret
  exact ⟨rfl, hb1.trans (hb5.mono hb1.size)⟩

/-- What a part of matching is given. -/
structure GoHyp (F : Nat → Prop) (p x : Tr) (l : List Bd) (w : World) (pv xv v : Value) : Prop where
  lt : Letters w
  fr : ∀ k, w.heap.size ≤ k → F k
  hp : TrV F w p pv
  hx : TrV F w x xv
  hl : Binds F w v l
  pat : p.pat = true
  chk : chkT x = 0
  chl : ∀ b ∈ l, chkT b.t = 0
  len : l.length + p.nn ≤ 1048576
/-- What it comes to. -/
def GoPost (F : Nat → Prop) (p x : Tr) (l : List Bd) (w : World) (e : Ending) (w' : World) : Prop :=
  ∃ v' l' ok, e = .returned (.tuple #[v', .bool ok]) ∧ Binds F w' v' l' ∧ Below w.heap.size w w' ∧ (∀ b ∈ l', chkT b.t = 0) ∧ l'.length ≤ l.length + p.nn ∧ p.go x l = (if ok then some l' else none)
theorem GoPost.of {F : Nat → Prop} {p x : Tr} {l : List Bd} {w w1 w' : World} {e : Ending} (hb : Below w.heap.size w w1) (h : GoPost F p x l w1 e w') : GoPost F p x l w e w' := by
  obtain ⟨v', l', ok, h1, h2, h3, h4⟩ := h
  exact ⟨v', l', ok, h1, h2, hb.trans (h3.mono hb.size), h4⟩
theorem bfind_chk {l : List Bd} {s : ByteArray} {y : Tr} (h : bfind l s = some y) (hc : ∀ b ∈ l, chkT b.t = 0) : chkT y = 0 := by
  unfold bfind at h
  cases hf : l.find? (fun b => b.s.toList == s.toList) with
  | none => rw [hf] at h; cases h
  | some b =>
    rw [hf] at h
    cases h
    exact hc b (List.mem_of_find?_eq_some hf)
theorem go_var {p x : Tr} {l : List Bd} (hk : p.k = 5) : p.go x l = if undB p.s then some l else match bfind l p.s with
      | some y => if y.same x then some l else none
      | none => some (l ++ [⟨p.s, x⟩]) := by rw [go_eq, if_pos hk]; rfl
theorem nn_pos (x : Tr) : 1 ≤ x.nn := by rw [nn_eq]; omega
theorem infoBind : (Tryz.prog.info? 40).map (fun i => (i.zero, i.size, i.bytes)) = some (some (.agg #[.string ⟨#[]⟩, .int .i8 0, .int .i64 0, .string ⟨#[]⟩, .string ⟨#[]⟩, .slice none 0 0]), 6, 88) := by kernel_rfl
theorem infoTerm : (Tryz.prog.info? 29).map (fun i => (i.zero, i.size, i.bytes)) = some (some (.agg #[.int .i8 0, .int .i64 0, .string ⟨#[]⟩, .string ⟨#[]⟩, .slice none 0 0]), 5, 72) := by kernel_rfl
theorem infoNode : (Tryz.prog.info? 25).map (fun i => (i.zero, i.size, i.bytes)) = some (some (.agg #[.int .i8 0, .int .i64 0, .string ⟨#[]⟩, .string ⟨#[]⟩, .slice none 0 0]), 5, 72) := by kernel_rfl
theorem info_parts {T : TypeId} {z : Value} {s b : Nat} (h : (Tryz.prog.info? T).map (fun i => (i.zero, i.size, i.bytes)) = some (some z, s, b)) : ∃ i, Tryz.prog.info? T = some i ∧ i.zero = some z ∧ i.size = s ∧ i.bytes = b := by
  obtain ⟨i, hi, he⟩ := Option.map_eq_some_iff.1 h
  simp only [Prod.mk.injEq] at he
  exact ⟨i, hi, he.1, he.2.1, he.2.2⟩

set_option maxHeartbeats 4000000 in
set_option maxRecDepth 100000 in
theorem name_any {F : Nat → Prop} {p x : Tr} {l : List Bd} {w : World} {pv xv v : Value} (h : GoHyp F p x l w pv xv v) (hk : p.k = 5) :
    Calls Tryz.prog 202 #[.agg #[.int .i8 p.k, .int .i64 p.n, .string p.s, .string p.t, pv], .agg #[.int .i8 x.k, .int .i64 x.n, .string x.s, .string x.t, xv], v] w (GoPost F p x l w) := by
  have hsz : p.s.size ≤ BL * 64 := h.hp.wf.s
  have hlen : l.length ≤ 1048575 := by have := h.len; have := nn_pos p; omega
  obtain ⟨p1, c1, rfl⟩ := h.hp.kids.slice
  obtain ⟨p2, c2, rfl⟩ := h.hx.kids.slice
  obtain ⟨pl, cl, rfl⟩ := h.hl.slice
  obtain ⟨n1, n2, hb1, hz1⟩ := two_new w (.cells #[.int .i8 p.k, .int .i64 p.n, .string p.s, .string p.t, .slice p1 p.l.length c1] 25) (.cells #[.int .i8 x.k, .int .i64 x.n, .string x.s, .string x.t, .slice p2 x.l.length c2] 29)
  obtain ⟨a0, a1, a2, a3, a4⟩ := node_heap n1
  obtain ⟨b0, b1, b2, b3, b4⟩ := node_heap n2
  simp only [Nat.zero_add] at a1 a2 a3 a4 b1 b2 b3 b4
  clear n1 n2
  have H := Lib.hid h
  have hG := go_var (x := x) (l := l) hk
  clear hk
  go_enter Tryz.func202, Tryz.ntmps202
  go_upto_region 1 with fail
  generalize (w.alloc (.cells #[.int .i8 p.k, .int .i64 p.n, .string p.s, .string p.t, .slice p1 p.l.length c1] 25)).alloc (.cells #[.int .i8 x.k, .int .i64 x.n, .string x.s, .string x.t, .slice p2 x.l.length c2] 29) = w1 at hb1 hz1 a0 a1 a2 a3 a4 b0 b1 b2 b3 b4 ⊢
  have cF := find_any (s := p.s) (H.out.hl.under hb1)
  clear h
  go_upto_region 2 with (go_at_call 215; refine cF.mono ?_; rintro e w5 ⟨y, yv, rfl, hy, hye, hb5⟩; obtain ⟨p3, c3, rfl⟩ := hy.kids.slice; have HY := Lib.hid hye; clear hye)
  have hb6 := alloc_below w5 (.cells #[.int .i8 y.k, .int .i64 y.n, .string y.s, .string y.t, .slice p3 y.l.length c3] 29)
  obtain ⟨q0, q1, q2, q3, q4⟩ := box5 w5 (.int .i8 y.k) (.int .i64 y.n) (.string y.s) (.string y.t) (.slice p3 y.l.length c3) 29
  have hb16 := hb5.trans (hb6.mono hb5.size)
  have hB := hb1.trans (hb16.mono hb1.size)
  have hy6 := hy.below hb6
  generalize w5.alloc (.cells #[.int .i8 y.k, .int .i64 y.n, .string y.s, .string y.t, .slice p3 y.l.length c3] 29) = w6 at hb6 q0 q1 q2 q3 q4 hb16 hB hy6 ⊢
  have hk6 : ∀ o u, w1.cell? ⟨w.heap.size, o, none⟩ = some u → w6.cell? ⟨w.heap.size, o, none⟩ = some u := fun o u h => (hb16.cell (p := ⟨w.heap.size, o, none⟩) (cell_block h)).trans h
  have hk7 : ∀ o u, w1.cell? ⟨w.heap.size + 1, o, none⟩ = some u → w6.cell? ⟨w.heap.size + 1, o, none⟩ = some u := fun o u h => (hb16.cell (p := ⟨w.heap.size + 1, o, none⟩) (cell_block h)).trans h
  have a2 := hk6 _ _ a2
  have b0 := hk7 _ _ b0
  have b1 := hk7 _ _ b1
  have b2 := hk7 _ _ b2
  have b3 := hk7 _ _ b3
  have b4 := hk7 _ _ b4
  have hx6 := H.out.hx.below hB
  have hl6 := H.out.hl.under hB
  have hL6 := H.out.lt.under hB
  clear hk6 hk7 a0 a1 a3 a4 hy hb5 hb6 cF hz1
  cases hu : undB p.s
  · have hu' : (p.s.toList == [95]) = false := hu
    rw [hu] at hG
    simp only [Bool.false_eq_true, if_false] at hG
    cases hf : bfind l p.s with
    | some y0 =>
      have hyx : y = y0 := by rw [HY.out, hf]; rfl
      subst hyx
      have hcy := bfind_chk hf H.out.chl
      have cS := msame_any hL6 hy6 hx6
      rw [cmp_same hcy H.out.chk] at cS
      rw [hf] at hG
      have HG := Lib.hid hG
      clear hG hu hf hcy HY
      simp only [Option.isSome_some]
      go_wp2_with (go_at_call 216; refine cS.mono ?_; rintro e w7 ⟨rfl, hb7⟩)
      go_ret2
      have hB7 := hB.trans (hb7.mono hB.size)
      refine ⟨_, l, _, rfl, H.out.hl.under hB7, hB7, H.out.chl, by omega, ?_⟩
      rw [HG.out]
    | none =>
      rw [hf] at hG
      have HG := Lib.hid hG
      clear hG hu hf HY
      simp only [Option.isSome_none]
      obtain ⟨L, hLm, hLt, hLc⟩ := hl6.cells
      have hLl : L.length = l.length := by rw [← hLm, List.length_map]
      have hno : pl = none → l.length = 0 ∧ l.length = 0 := by
        intro e
        subst e
        by_cases h0 : 0 < l.length
        · obtain ⟨g, o, sv, e, _⟩ := hl6.at h0
          cases e
        · omega
      have hcl : l.length ≤ cl := by obtain ⟨p', c', e, h, _⟩ := hl6; cases e; exact h
      have hcl' : (l.length : Int) ≤ (cl : Int) := by omega
      have hLc' : ∀ W, Below w6.heap.size w6 W → ∀ b, pl = some b → ∀ j u, (L.flatMap bcells)[j]? = some u → W.cell? (b.add j) = some u := by
        intro W hb b e j u hu
        have := hLc b e j u hu
        exact (hb.cell (p := b.add j) (by
          unfold World.cell? at this
          cases hg : w6.heap[(b.add j).block]? with
          | none => simp [hg] at this
          | some ob => exact (Array.getElem?_eq_some_iff.1 hg).1)).trans this
      obtain ⟨i0, hi, hz0, hz1, hz2⟩ := info_parts infoBind
      have HLm := Lib.hid hLm
      have HLt := Lib.hid hLt
      have HLc := Lib.hid hLc'
      have HLl := Lib.hid hLl
      have HNO := Lib.hid hno
      clear hLm hLt hLc hLc' hLl hno hcl
      go_upto_region 6 with fail
      go_region_law (refine step_append_grows rfl (.tmp 33) (.tmp 38) 26 rfl 40 i0 _ 6 88 Tryz.underlying26 hi hz0 hz1 hz2 rfl (by decide) pl l.length l.length (L.flatMap bcells) (by simp [Act.eval]) HNO.out (by rw [flat6_len, HLl.out]) (HLc.out _ (alloc_below _ _).drew) ⟨w6.heap.size, 0, none⟩ 1 1 (bcells (⟨p.s, x⟩, .slice p2 x.l.length c2)) (by simp [Act.eval]) rfl (cells_at_new w6 (bcells (⟨p.s, x⟩, .slice p2 x.l.length c2)) 40) (bcells_plain (F := F) (q := (⟨p.s, x⟩, .slice p2 x.l.length c2)) hx6) (by omega) (by unfold maxLen; omega) (by omega) ?_; intro v' w8 hown hgrow)
      all_goals
        go_wp2
        go_ret2
        have hB8 : Below w6.heap.size w6 w8 := ((alloc_below w6 _).drew).grown hgrow (by simp) (fun j hj => by cases hj)
        have hB9 := hB.trans (hB8.mono hB.size)
        have hbl : Binds F w8 v' ((L ++ [((⟨p.s, x⟩ : Bd), Value.slice p2 x.l.length c2)]).map fun q : Bd × Value => q.1) := by
          refine binds_row (base := (w6.alloc (.cells #[.string p.s, .int .i8 x.k, .int .i64 x.n, .string x.s, .string x.t, .slice p2 x.l.length c2] 40)).drew.heap.size) (T := 40) ?_ (fun k hk => H.out.fr k (by have := hB.size; simp at hk; omega)) (fun q hq => ?_) (by rw [List.length_append, HLl.out]; unfold BL; simp; omega)
          · simpa [HLl.out] using hown
          · rcases List.mem_append.1 hq with hq | hq
            · have := HLt.out q hq
              exact ⟨this.1.below hB8, this.2⟩
            · simp only [List.mem_singleton] at hq
              subst hq
              exact ⟨hx6.below hB8, hsz⟩
        refine ⟨v', _, true, rfl, hbl, hB9, fun b hb => ?_, ?_, ?_⟩
        · rw [List.map_append, HLm.out] at hb
          rcases List.mem_append.1 hb with hb | hb
          · exact H.out.chl b hb
          · simp only [List.map_cons, List.map_nil, List.mem_singleton] at hb
            subst hb
            exact H.out.chk
        · rw [List.length_map, List.length_append, HLl.out]
          have := nn_pos p
          simp; omega
        · rw [HG.out, List.map_append, HLm.out]; rfl
  · rw [hu, if_pos rfl] at hG
    have hu' : (p.s.toList == [95]) = true := hu
    have HG := Lib.hid hG
    clear hG hu
    go_wp2
    go_ret2
    exact ⟨_, l, true, rfl, hl6, hB, H.out.chl, by omega, HG.out⟩
end Go.Proofs.YtlhobpknflobgaaGreatDoor
namespace Go.Proofs.YtlhobpknflobgaaGreatDoor
open Go.RowKit

set_option maxHeartbeats 1000000 in
theorem mleaf_any (w : World) (k : Int) :
    Calls Tryz.prog 203 #[.int .i8 k] w fun e w' => e = .returned (.func (Fn.func 217) #[] #[.pointer (some ⟨w.heap.size, 0, none⟩)]) ∧ w' = w.alloc (.cells #[.int .i8 k] 22) := by
  go_enter Tryz.func203, Tryz.ntmps203
  go_wp2
  go_ret
  exact ⟨rfl, rfl⟩
theorem mwhole_any (w : World) (k : Int) :
    Calls Tryz.prog 204 #[.int .i8 k] w fun e w' => e = .returned (.func (Fn.func 218) #[] #[.pointer (some ⟨w.heap.size, 0, none⟩)]) ∧ w' = w.alloc (.cells #[.int .i8 k] 22) := by
  go_enter Tryz.func204, Tryz.ntmps204
  go_wp2
  go_ret
  exact ⟨rfl, rfl⟩

set_option maxHeartbeats 4000000 in
set_option maxRecDepth 100000 in
theorem mleaf1_any (w : World) (p x : Tr) (pp px : Option Addr) (np cp nx cx : Nat) (v : Value) (bk : Nat) (kk : Int) (hk : w.cell? ⟨bk, 0, none⟩ = some (.int .i8 kk)) :
    Calls Tryz.prog 217 #[.agg #[.int .i8 p.k, .int .i64 p.n, .string p.s, .string p.t, .slice pp np cp], .agg #[.int .i8 x.k, .int .i64 x.n, .string x.s, .string x.t, .slice px nx cx], v, .pointer (some ⟨bk, 0, none⟩)] w fun e w' => e = .returned (.tuple #[v, .bool (x.k == kk && (x.n == p.n && x.s.toList == p.s.toList))]) ∧ Below w.heap.size w w' := by
  obtain ⟨n1, n2, hb1, hz1⟩ := two_new w (.cells #[.int .i8 p.k, .int .i64 p.n, .string p.s, .string p.t, .slice pp np cp] 25) (.cells #[.int .i8 x.k, .int .i64 x.n, .string x.s, .string x.t, .slice px nx cx] 29)
  have hk1 := (hb1.cell (p := ⟨bk, 0, none⟩) (cell_block hk)).trans hk
  obtain ⟨a0, a1, a2, a3, a4⟩ := node_heap n1
  obtain ⟨b0, b1, b2, b3, b4⟩ := node_heap n2
  simp only [Nat.zero_add] at a1 a2 a3 a4 b1 b2 b3 b4
  clear n1 n2 hk
  cases e1 : (x.k == kk)
  · have d1 : decide (x.k = kk) = false := by simpa using e1
    go_enter Tryz.func217, Tryz.ntmps217
    go_wp2_with fail
    go_quiet (fail)
    go_wp2
    go_ret2
    exact ⟨rfl, by first | exact hb1.drew | exact below_drewN hb1 _⟩
  have d1 : decide (x.k = kk) = true := by simpa using e1
  cases e2 : (x.n == p.n)
  · have d2 : decide (x.n = p.n) = false := by simpa using e2
    go_enter Tryz.func217, Tryz.ntmps217
    go_wp2_with fail
    go_quiet (fail)
    go_wp2
    go_ret2
    exact ⟨rfl, by first | exact hb1.drew | exact below_drewN hb1 _⟩
  · have d2 : decide (x.n = p.n) = true := by simpa using e2
    generalize hq : (x.s.toList == p.s.toList) = q
    go_enter Tryz.func217, Tryz.ntmps217
    go_wp2_with fail
    go_quiet (fail)
    go_wp2
    go_ret2
    exact ⟨rfl, by first | exact hb1.drew | exact below_drewN hb1 _⟩
end Go.Proofs.YtlhobpknflobgaaGreatDoor
