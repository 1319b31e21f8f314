/-
  The Web's method 'such', and Watches, Watchers. Conditions: the Web lies as 'Web' says, of at most 2^40 monitors.
-/
import Derived.Test.YtjkdmdddgiomjaaWeb
import Derived.Deep.LoopGhost
namespace Go.Proofs.Ytjkdmdddgiomjaa
open Go.RowKit Go.Maps

theorem infoSeen : (Try.prog.info? 53).map (fun i => (i.zero, i.size, i.bytes)) = some (some (.agg #[.int .i64 0, .int .i64 0, .int .i64 0]), 3, 24) := by kernel_rfl
theorem zeroS (w : World) : (zeroValue 53).run Try.prog w = .ok (.agg #[.int .i64 0, .int .i64 0, .int .i64 0]) w := by kernel_rfl

def seenCells (m : Int × Int × Int) : List Value := [.int .i64 m.1, .int .i64 m.2.1, .int .i64 m.2.2]
def NewSeen (base : Nat) (w' : World) (v : Value) (l : List (Int × Int × Int)) : Prop := w'.ownsRow base 53 3 v l.length (l.flatMap seenCells) ∧ (v = .slice none 0 0 ↔ l = [])

theorem look_seen {M : List (Int × Int × Int)} (h : Srt (M.map fun m => (m.1, seenV m))) {k : Nat} (hk : k < M.length) : look M[k].1 (M.map fun m => (m.1, seenV m)) = some (seenV M[k]) := by
  induction M generalizing k with
  | nil => simp at hk
  | cons m r ih =>
    have hr : Srt (r.map fun m => (m.1, seenV m)) := (List.pairwise_cons.1 h).2
    cases k with
    | zero => simp [look]
    | succ k =>
      have hk' : k < r.length := by simpa using hk
      have h1 := (List.pairwise_cons.1 h).1 (r[k].1, seenV r[k]) (List.mem_map.2 ⟨r[k], List.getElem_mem _, rfl⟩)
      simp only at h1
      have := ih hr hk'
      simp only [look, List.map_cons, List.find?_cons, List.getElem_cons_succ] at this ⊢
      rw [show ((m.1 == r[k].1) = false) from by simp; omega]
      exact this

theorem keys_cell {W : World} {base g cap : Nat} {l : List Int} (h : W.ownsRow base 3 1 (.slice (some ⟨g, 0, none⟩) l.length cap) l.length (l.map (Value.int .i64))) {k : Nat} (hk : k < l.length) : W.cell? ⟨g, k, none⟩ = some (.int .i64 l[k]) := by
  obtain ⟨_, h | ⟨g', cap', cur, he, _, hh, _, _, _, ht⟩⟩ := h
  · simp at h
  · simp at he
    obtain ⟨rfl, rfl⟩ := he
    have : cur.toList[k]? = some (.int .i64 l[k]) := by
      have h1 : (cur.toList.take (l.length * 1))[k]? = some (.int .i64 l[k]) := by rw [ht]; simp [hk]
      rw [List.getElem?_take] at h1
      simpa [hk] using h1
    simp [World.cell?, hh]
    simpa using this

theorem ownsRow_below {w w' : World} {base : Nat} {e : TypeId} {size : Nat} {v : Value} {n : Nat} {xs : List Value} (h : w.ownsRow base e size v n xs) (hb : Below w.heap.size w w') : w'.ownsRow base e size v n xs := by
  obtain ⟨h1, h2⟩ := h
  refine ⟨h1, ?_⟩
  rcases h2 with h2 | ⟨g, cap, cur, hv, hg, hh, r⟩
  · exact .inl h2
  · exact .inr ⟨g, cap, cur, hv, hg, (hb.block g (Array.getElem?_eq_some_iff.1 hh).1).trans hh, r⟩
theorem ownsRow_alloc {w : World} {base : Nat} {e : TypeId} {size : Nat} {v : Value} {n : Nat} {xs : List Value} (h : w.ownsRow base e size v n xs) (o : Obj) : (w.alloc o).ownsRow base e size v n xs :=
  ownsRow_below h ((Below.refl _ w).alloc (Nat.le_refl _) o)
theorem cells_new (W : World) (cs : List Value) (e : TypeId) : ∀ (j : Nat) (u : Value), cs[j]? = some u → (W.alloc (.cells cs.toArray e)).cell? (Addr.add ⟨W.heap.size, 0, none⟩ j) = some u := fun j u h => by
  have h1 := (MapKept.heap_alloc W (.cells cs.toArray e)).1
  have e1 : Addr.add ⟨W.heap.size, 0, none⟩ j = ⟨W.heap.size, j, none⟩ := by
    by_cases hj : j = 0
    · subst hj; rfl
    · simp [Addr.add, hj]
  rw [e1]
  unfold World.cell?
  rw [h1]
  simpa using h
theorem take_filter_yes {α : Type} {p : α → Bool} {M : List α} {k : Nat} (hk : k < M.length) (hp : p M[k] = true) : (M.take (k + 1)).filter p = (M.take k).filter p ++ [M[k]] := by
  rw [List.take_succ_eq_append_getElem hk, List.filter_append]; simp [hp]
theorem take_filter_no {α : Type} {p : α → Bool} {M : List α} {k : Nat} (hk : k < M.length) (hp : p M[k] = false) : (M.take (k + 1)).filter p = (M.take k).filter p := by
  rw [List.take_succ_eq_append_getElem hk, List.filter_append]; simp [hp]

/-- A new slice of ints: nil and empty, or a row with its cells. -/
theorem ints_cases {W : World} {base : Nat} {v : Value} {l : List Int} (h : W.ownsRow base 3 1 v l.length (l.map (Value.int .i64))) (hn : v = .slice none 0 0 ↔ l = []) :
    (v = .slice none 0 0 ∧ l = []) ∨ ∃ g cap, v = .slice (some ⟨g, 0, none⟩) l.length cap ∧ base ≤ g ∧ g < W.heap.size ∧ l.length ≤ cap ∧ (∀ k (hk : k < l.length), W.cell? ⟨g, k, none⟩ = some (.int .i64 l[k])) ∧ 0 < l.length := by
  rcases h.2 with ⟨rfl, hz⟩ | ⟨g, cap, cur, rfl, hb, hh, hc, _⟩
  · exact .inl ⟨rfl, hn.1 rfl⟩
  · refine .inr ⟨g, cap, rfl, hb, (Array.getElem?_eq_some_iff.1 hh).1, hc, fun k hk => keys_cell h hk, ?_⟩
    have : l ≠ [] := fun e => by simpa using hn.2 e
    exact List.length_pos_iff.2 this

section
variable {w : World} {B N : Nat} {il : List (Int × Nat × List Int)} {S : Int → Int → Bool} {M : List (Int × Int × Int)} {last : Int} {bl bp bs : Nat}

set_option maxHeartbeats 400000 in
theorem such_nil (w : World) (f : Value) : Calls Try.prog 37 #[.pointer none, f] w fun e w' => e = .returned (.slice none 0 0) ∧ w = w' := by
  go_enter Try.func37, Try.ntmps37
  go_wp2
  go_ret
  exact ⟨rfl, rfl⟩

def SuchRel (p : Int × Int × Int → Bool) (M : List (Int × Int × Int)) (W1 : World) (out : Value) (i : Value) (wr : World) : Prop :=
  ∃ k : Nat, k ≤ M.length ∧ i = .int .i64 k ∧ NewSeen W1.heap.size wr out ((M.take k).filter p) ∧ Below W1.heap.size W1 wr

set_option maxHeartbeats 1000000 in
set_option maxRecDepth 100000 in
theorem such_any (h : Web w B N il S M last bl bp bs) (hN : N ≤ BN) (g : Nat) (cb : Array Value) (eg : ∀ args w, (callFunc g args).run Try.prog w = .ok (.enter g args) w) (p : Int × Int × Int → Bool)
    (hcl : ∀ (W : World) m, m ∈ M → Below w.heap.size w W → Calls Try.prog g (#[.agg #[.int .i64 m.1, .int .i64 m.2.1, .int .i64 m.2.2]] ++ cb) W fun e w' => e = .returned (.bool (p m)) ∧ Below W.heap.size W w') :
    Calls Try.prog 37 #[.pointer (some ⟨B, 0, none⟩), .func (.func g) #[] cb] w fun e w' => ∃ v, e = .returned v ∧ NewSeen w.heap.size w' v (M.filter p) ∧ Below w.heap.size w w' := by
  have hc2 := h.cell2
  have hS := h.seen
  have hlen : M.length ≤ N := by simpa using hS.length_le
  have hBl : B < w.heap.size := (Array.getElem?_eq_some_iff.1 h.head).1
  clear h
  have hS1 : IMap 3 (w.alloc (.cells #[.map (some bs)] 57)) bs N (M.map fun m => (m.1, seenV m)) := hS.same (Below.heap_alloc _ _ _ hS.lt)
  have HD := Lib.hid hcl
  clear hcl
  have e1 : ((M.map fun m => (m.1, seenV m)).map (·.1)) = M.map (·.1) := by simp [Function.comp_def]
  go_enter Try.func37, Try.ntmps37
  go_wp2_with (first
    | (go_at_call 49; refine (keys_S _ _).mono ?_; rintro e w' ⟨rfl, rfl⟩)
    | (go_at_call 35; refine (sortedKeys_S _ bs N _ _ (by simp) (by rw [World.cell?_alloc_at _ _ _ _ (by simp)]; rfl) hS1 hN).mono ?_; rintro e W1 ⟨v, rfl, hrow, hnil, hb⟩; rw [e1] at hrow; rcases ints_cases (l := M.map (·.1)) (by simpa using hrow) (by simpa using hnil) with ⟨rfl, hM⟩ | ⟨g2, cap2, rfl, hg1, hg2, hcap, hcells, hpos⟩ <;> clear hrow hnil))
  · go_loop [5, 18] (fun o i => o = .slice none 0 0 ∧ i = .int .i64 0) (fun _ _ => 0)
    case atStart => exact ⟨rfl, rfl⟩
    case round =>
      obtain ⟨rfl, rfl⟩ := hrel
      go_wp2
      go_ret
      have hM0 : M = [] := by simpa using hM
      subst hM0
      exact ⟨_, rfl, ⟨⟨rfl, .inl ⟨rfl, rfl⟩⟩, by simp⟩, ((Below.refl _ w).alloc (Nat.le_refl _) _).trans (hb.mono (by simp))⟩
  · have hW1 : Below w.heap.size w W1 := ((Below.refl _ w).alloc (Nat.le_refl _) _).trans (hb.mono (by simp))
    obtain ⟨i0, hi, hz0, hz1, hz2⟩ := info_parts infoSeen
    go_loopw [5, 18] (fun o i wr => SuchRel p M W1 o i wr) (fun _ i _ => M.length - (intOf i).toNat)
    case atStart => exact ⟨0, Nat.zero_le _, rfl, ⟨World.ownsRow_nil .., by simp⟩, Below.refl _ _⟩
    case round =>
      obtain ⟨k, hk, rfl, ⟨hrow, hnil⟩, hB⟩ := hrel
      by_cases hlt : k < M.length
      · have hmem : M[k] ∈ M := List.getElem_mem _
        have hkey : I64 M[k].1 := hS.kwf _ (List.mem_map.2 ⟨M[k], hmem, rfl⟩)
        have hcell : wr.cell? ⟨g2, k, none⟩ = some (.int .i64 M[k].1) := (hB.cell hg2).trans (by have := hcells k (by simpa using hlt); simpa using this)
        have hc2' : wr.cell? ⟨B, 2, none⟩ = some (.map (some bs)) := (hB.cell (Nat.lt_of_lt_of_le hBl hW1.size)).trans ((hW1.cell hBl).trans hc2)
        have hS' : IMap 3 wr bs N (M.map fun m => (m.1, seenV m)) := (hS.same (hW1.block _ hS.lt)).same (hB.block _ (Nat.lt_of_lt_of_le hS.lt hW1.size))
        have hrun := hS'.look (t := 57) Try.underlying3 Try.underlying57 (zeroS wr) hkey
        rw [look_seen hS.srt hlt] at hrun
        simp only [Option.getD_some, seenV] at hrun
        have hlen' : M.length ≤ 1099511627776 := Nat.le_trans hlen hN
        have hfl : ((M.take k).filter p).length ≤ k := Nat.le_trans (List.length_filter_le _ _) (List.length_take_le _ _)
        have hcall : Calls Try.prog g (#[.agg #[.int .i64 M[k].1, .int .i64 M[k].2.1, .int .i64 M[k].2.2]] ++ cb) (wr.alloc (.cells #[.int .i64 M[k].1, .int .i64 M[k].2.1, .int .i64 M[k].2.2] 53)) _ :=
          HD.out _ M[k] hmem ((hW1.trans (hB.mono hW1.size)).alloc (Nat.le_trans hW1.size hB.size) _)
        have hsz1 := hB.size
        have hsz2 := hW1.size
        clear hS hS' hb hcells hN hlen
        cases hp : p M[k] <;> rw [hp] at hcall
        · have HP := Lib.hid hp
          clear hp
          go_wp2_with (go_at_fn g; refine hcall.mono ?_; rintro e w2 ⟨rfl, hb2⟩)
          go_roundw
          case rel => exact ⟨k + 1, hlt, by go_num, by rw [take_filter_no hlt HP.out]; exact ⟨ownsRow_below (ownsRow_alloc hrow _) hb2, hnil⟩, (hB.alloc hsz1 _).trans (hb2.mono (by simp; omega))⟩
          case measure => simp [intOf]; omega
        · have HP := Lib.hid hp
          clear hp
          go_wp2_with (first
            | (go_at_fn g; refine hcall.mono ?_; rintro e w2 ⟨rfl, hb2⟩; have q0 : w2.cell? ⟨wr.heap.size, 0, none⟩ = some (.int .i64 M[k].1) := (hb2.cell (by simp)).trans (by rw [World.cell?_alloc_at _ _ _ _ (by simp)]; rfl); have q1 : w2.cell? ⟨wr.heap.size, 1, none⟩ = some (.int .i64 M[k].2.1) := (hb2.cell (by simp)).trans (by rw [World.cell?_alloc_at _ _ _ _ (by simp)]; rfl); have q2 : w2.cell? ⟨wr.heap.size, 2, none⟩ = some (.int .i64 M[k].2.2) := (hb2.cell (by simp)).trans (by rw [World.cell?_alloc_at _ _ _ _ (by simp)]; rfl); have hrow2 := ownsRow_below (ownsRow_alloc hrow (.cells #[.int .i64 M[k].1, .int .i64 M[k].2.1, .int .i64 M[k].2.2] 53)) hb2; have hsz3 : wr.heap.size + 1 ≤ w2.heap.size := by simpa using hb2.size)
            | (at_builtin; refine wpList_append_own _ rfl _ _ 29 rfl W1.heap.size 53 i0 _ 3 24 Try.underlying29 hi hz0 hz1 hz2 rfl (by decide) _ _ _ rfl (ownsRow_alloc hrow2 _) ⟨w2.heap.size, 0, none⟩ 1 1 (seenCells M[k]) rfl rfl ?c1 ?c2 ?c3 ?c4 ?c5 ?_; rotate_left 5; intro v' w3 hown3 hg3 hn3))
          case c1 => exact cells_new w2 (seenCells M[k]) _
          case c2 =>
            intro u hu
            simp only [seenCells, List.mem_cons, List.not_mem_nil, or_false] at hu
            rcases hu with rfl | rfl | rfl <;> rfl
          case c3 => unfold maxLen; omega
          case c4 => omega
          case c5 => simp; omega
          go_roundw
          case rel =>
            refine ⟨k + 1, hlt, by go_num, ?_, ?_⟩
            · rw [take_filter_yes hlt HP.out]
              refine ⟨by simpa using hown3, ?_⟩
              rw [hn3]; simp
            · refine (((hB.alloc hsz1 _).trans (hb2.mono (by simp; omega))).alloc (by omega) _).grown hg3 (by simp; omega) (fun j hj => ?_)
              rcases hrow.2 with ⟨rfl, _⟩ | ⟨g', _, _, rfl, hg', _⟩
              · cases hj
              · cases hj; exact hg'
          case measure => simp [intOf]; omega
      · go_wp2
        go_ret
        have hkM : k = M.length := by omega
        subst hkM
        rw [List.take_length] at hrow hnil
        exact ⟨_, rfl, ⟨ownsRow_base_a hrow hW1.size, hnil⟩, hW1.trans (hB.mono hW1.size)⟩

theorem cell_one_box (w : World) (v : Value) (t : TypeId) : (w.alloc (.cells #[v] t)).cell? ⟨w.heap.size, 0, none⟩ = some v := by rw [World.cell?_alloc_at _ _ _ _ (by simp)]; rfl

set_option maxHeartbeats 400000 in
theorem watches1 (W : World) (r f t a : Int) (bx : Nat) (hx : W.cell? ⟨bx, 0, none⟩ = some (.int .i64 a)) :
    Calls Try.prog 38 (#[.agg #[.int .i64 r, .int .i64 f, .int .i64 t]] ++ #[.pointer (some ⟨bx, 0, none⟩)]) W fun e w' => e = .returned (.bool (f == a)) ∧ Below W.heap.size W w' := by
  have hl : bx < W.heap.size := by
    by_cases h : bx < W.heap.size
    · exact h
    · simp [World.cell?, show W.heap[bx]? = none from by simp; omega] at hx
  go_enter Try.func38, Try.ntmps38
  go_wp2
  go_ret
  exact ⟨rfl, (Below.refl _ _).alloc (Nat.le_refl _) _⟩
set_option maxHeartbeats 400000 in
theorem watchers1 (W : World) (r f t a : Int) (bx : Nat) (hx : W.cell? ⟨bx, 0, none⟩ = some (.int .i64 a)) :
    Calls Try.prog 43 (#[.agg #[.int .i64 r, .int .i64 f, .int .i64 t]] ++ #[.pointer (some ⟨bx, 0, none⟩)]) W fun e w' => e = .returned (.bool (t == a)) ∧ Below W.heap.size W w' := by
  have hl : bx < W.heap.size := by
    by_cases h : bx < W.heap.size
    · exact h
    · simp [World.cell?, show W.heap[bx]? = none from by simp; omega] at hx
  go_enter Try.func43, Try.ntmps43
  go_wp2
  go_ret
  exact ⟨rfl, (Below.refl _ _).alloc (Nat.le_refl _) _⟩

theorem Web.block {w w' : World} {S' : Int → Int → Bool} (h : Web w B N il S M last bl bp bs) (hb : Below w.heap.size w w') (hS : ∀ x y, S' x y = S x y := by intros; rfl) : Web w' B N il S' M last bl bp bs where
  head := (hb.block _ (Array.getElem?_eq_some_iff.1 h.head).1).trans h.head
  outer := h.outer.same (hb.block _ h.outer.lt)
  inner p hp := (h.inner p hp).same (hb.block _ (h.inner p hp).lt)
  pairs := (h.pairs.same (hb.block _ h.pairs.lt)).ext hS
  seen := h.seen.same (hb.block _ h.seen.lt)
  nodup := h.nodup

set_option maxHeartbeats 400000 in
theorem watches_nil (w : World) (a : Int) : Calls Try.prog 12 #[.pointer none, .int .i64 a] w fun e w' => e = .returned (.slice none 0 0) ∧ Below w.heap.size w w' := by
  go_enter Try.func12, Try.ntmps12
  go_wp2_with (go_at_call 37; refine (such_nil _ _).mono ?_; rintro e w' ⟨rfl, rfl⟩)
  go_ret
  exact ⟨rfl, (Below.refl _ _).alloc (Nat.le_refl _) _⟩
set_option maxHeartbeats 400000 in
theorem watchers_nil (w : World) (a : Int) : Calls Try.prog 26 #[.pointer none, .int .i64 a] w fun e w' => e = .returned (.slice none 0 0) ∧ Below w.heap.size w w' := by
  go_enter Try.func26, Try.ntmps26
  go_wp2_with (go_at_call 37; refine (such_nil _ _).mono ?_; rintro e w' ⟨rfl, rfl⟩)
  go_ret
  exact ⟨rfl, (Below.refl _ _).alloc (Nat.le_refl _) _⟩

set_option maxHeartbeats 400000 in
theorem watches_any (h : Web w B N il S M last bl bp bs) (hN : N ≤ BN) (a : Int) :
    Calls Try.prog 12 #[.pointer (some ⟨B, 0, none⟩), .int .i64 a] w fun e w' => ∃ v, e = .returned v ∧ NewSeen w.heap.size w' v (M.filter fun m => m.2.1 == a) ∧ Below w.heap.size w w' := by
  have hA : Below w.heap.size w (w.alloc (.cells #[.int .i64 a] 3)) := (Below.refl _ _).alloc (Nat.le_refl _) _
  have hS := such_any (h.block hA) hN 38 #[.pointer (some ⟨w.heap.size, 0, none⟩)] (enters_of Try.func38 (by kernel_rfl) rfl) (fun m => m.2.1 == a)
    (fun W m _ hW => watches1 W m.1 m.2.1 m.2.2 a w.heap.size ((hW.cell (by simp)).trans (cell_one_box _ _ _)))
  clear h
  go_enter Try.func12, Try.ntmps12
  go_wp2_with (go_at_call 37; refine hS.mono ?_; rintro e w' ⟨v, rfl, hv, hb⟩)
  go_ret
  exact ⟨v, rfl, ⟨ownsRow_base_a hv.1 (by simp), hv.2⟩, hA.trans (hb.mono hA.size)⟩
set_option maxHeartbeats 400000 in
theorem watchers_any (h : Web w B N il S M last bl bp bs) (hN : N ≤ BN) (a : Int) :
    Calls Try.prog 26 #[.pointer (some ⟨B, 0, none⟩), .int .i64 a] w fun e w' => ∃ v, e = .returned v ∧ NewSeen w.heap.size w' v (M.filter fun m => m.2.2 == a) ∧ Below w.heap.size w w' := by
  have hA : Below w.heap.size w (w.alloc (.cells #[.int .i64 a] 3)) := (Below.refl _ _).alloc (Nat.le_refl _) _
  have hS := such_any (h.block hA) hN 43 #[.pointer (some ⟨w.heap.size, 0, none⟩)] (enters_of Try.func43 (by kernel_rfl) rfl) (fun m => m.2.2 == a)
    (fun W m _ hW => watchers1 W m.1 m.2.1 m.2.2 a w.heap.size ((hW.cell (by simp)).trans (cell_one_box _ _ _)))
  clear h
  go_enter Try.func26, Try.ntmps26
  go_wp2_with (go_at_call 37; refine hS.mono ?_; rintro e w' ⟨v, rfl, hv, hb⟩)
  go_ret
  exact ⟨v, rfl, ⟨ownsRow_base_a hv.1 (by simp), hv.2⟩, hA.trans (hb.mono hA.size)⟩
end
end Go.Proofs.Ytjkdmdddgiomjaa
