/-
  pleachref17.Take. Conditions: the items lie as 'Items' says.
-/
import Derived.Test.YtlhobpknflobgaaGreatDoorMl8
namespace Go.Proofs.YtlhobpknflobgaaGreatDoor
open Go.RowKit

/-- A row of the call's own, with items whose trees lie in F. -/
structure IRow2 (F : Nat → Prop) (base : Nat) (w : World) (v : Value) (L : List (It × Value)) : Prop where
  own : w.ownsRow base 65 6 v L.length (L.flatMap icells)
  at_ : ∀ q ∈ L, TrV F w q.1.t q.2
theorem IRow2.nil (F : Nat → Prop) (base : Nat) (w : World) : IRow2 F base w (.slice none 0 0) [] := ⟨World.ownsRow_nil .., fun q hq => by simp at hq⟩
theorem IRow2.under {F : Nat → Prop} {base : Nat} {w w' : World} {v : Value} {L : List (It × Value)} (h : IRow2 F base w v L) (hb : Below w.heap.size w w') : IRow2 F base w' v L := ⟨row_under h.own hb, fun q hq => (h.at_ q hq).below hb⟩
set_option maxRecDepth 10000 in
theorem run_append_items2 {w : World} (ty : TypeId) (F : Nat → Prop) (base : Nat) (hF : ∀ g, F g → g < base) (v : Value) (L : List (It × Value)) (hrow : IRow2 F base w v L) (p : Option Addr) (n c : Nat) (l : List It) (hsrc : Items F w (.slice p n c) l)
    (hlen : L.length + l.length ≤ 1048576) (hbase : base ≤ w.heap.size) :
    ∃ v' w' L', (Builtin.append_ #[55, 55] ty #[v, .slice p n c]).run Tryz.prog w = .ok v' w' ∧ IRow2 F base w' v' (L ++ L') ∧ L'.map (·.1) = l ∧ Below base w w' := by
  obtain ⟨i0, hi, hz0, hz1, hz2⟩ := info_parts infoItem
  obtain ⟨Ls, hLm, hLt, hLc⟩ := hsrc.cells
  have hLl : Ls.length = l.length := by rw [← hLm, List.length_map]
  have hn : n = l.length := hsrc.room.1
  cases p with
  | none =>
    obtain ⟨h1, h2⟩ := hsrc.none
    obtain rfl : Ls = [] := List.eq_nil_of_length_eq_zero (by omega)
    obtain rfl : c = 0 := h2
    obtain rfl : n = 0 := by omega
    exact ⟨v, w, [], run_append_owned_none (P := Tryz.prog) (w := w) base 55 ty 65 i0 6 Tryz.underlying55 hi v L.length (L.flatMap icells) hrow.own, by rw [List.append_nil]; exact hrow, hLm, Below.refl _ _⟩
  | some ad =>
    obtain ⟨v', w', hr, hown, hg, _⟩ := run_append_own (P := Tryz.prog) w base 55 ty 65 i0 _ 6 80 Tryz.underlying55 hi hz0 hz1 hz2 rfl (by decide) v L.length (L.flatMap icells) hrow.own ad n c (Ls.flatMap icells) (by rw [flat6i_len, hLl, hn]) (hLc ad rfl)
      (fun u hu => by obtain ⟨q, hq, hu⟩ := List.mem_flatMap.1 hu; exact icells_plain (hLt q hq) u hu) (by unfold maxLen; omega) (by omega) hbase
    have hB : Below base w w' := (Below.refl _ _).grown hg hbase (row_base hrow.own)
    refine ⟨v', w', Ls, hr, ⟨by rw [List.length_append, List.flatMap_append, hLl, ← hn]; exact hown, fun q hq => ?_⟩, hLm, hB⟩
    have hq' : TrV F w q.1.t q.2 := by
      rcases List.mem_append.1 hq with hq | hq
      · exact hrow.at_ q hq
      · exact hLt q hq
    exact ⟨hq'.wf, hq'.kids.keep fun g hg' hl => hB.block g (hF g hg')⟩
theorem wpList_append_items2 {w : World} {ops : Array Oper} {rest : List Oper} {o : Oper} {a : Act} {Q : Exit → Act → World → Prop} (hgd : o.guard = none) (s x : Operand)
    (ho : o.op = .call { callee := .builtin .append, args := #[s, x], argTypes := #[55, 55] })
    (F : Nat → Prop) (base : Nat) (hF : ∀ g, F g → g < base) (v : Value) (L : List (It × Value)) (hs : a.eval s = v) (hrow : IRow2 F base w v L) (p : Option Addr) (n c : Nat) (l : List It) (hx : a.eval x = .slice p n c) (hsrc : Items F w (.slice p n c) l)
    (hlen : L.length + l.length ≤ 1048576) (hbase : base ≤ w.heap.size)
    (h : ∀ v' w' L', IRow2 F base w' v' (L ++ L') → L'.map (·.1) = l → Below base w w' → wpList Tryz.prog ops Q rest (a.put o.dst v') w') : wpList Tryz.prog ops Q (o :: rest) a w := by
  refine wpList_plain hgd fun K hK => ?_
  obtain ⟨v', w', L', hr, k1, k2, k3⟩ := run_append_items2 o.type F base hF v L hrow p n c l hsrc hlen hbase
  unfold Oper.wp
  simp [execOp, ho, resolve, invoke, builtin, hs, hx, hr, Result.andThen]
  exact hK _ _ (h v' w' L' k1 k2 k3)
theorem step_append_items2 {w : World} {ops : Array Oper} {o : Oper} {a : Act} {K : Act → World → Prop} {Q : Exit → Act → World → Prop} {E : Prop} (hgd : o.guard = none) (s x : Operand)
    (ho : o.op = .call { callee := .builtin .append, args := #[s, x], argTypes := #[55, 55] })
    (F : Nat → Prop) (base : Nat) (hF : ∀ g, F g → g < base) (v : Value) (L : List (It × Value)) (hs : a.eval s = v) (hrow : IRow2 F base w v L) (p : Option Addr) (n c : Nat) (l : List It) (hx : a.eval x = .slice p n c) (hsrc : Items F w (.slice p n c) l)
    (hlen : L.length + l.length ≤ 1048576) (hbase : base ≤ w.heap.size)
    (h : ∀ v' w' L', IRow2 F base w' v' (L ++ L') → L'.map (·.1) = l → Below base w w' → K (a.put o.dst v') w') :
    if Region.wanted o (yielded ops a.tmps) = true then Oper.wp Tryz.prog o a w K Q else E := by
  have hw : Region.wanted o (yielded ops a.tmps) = true := by simp [Region.wanted, hgd]
  rw [if_pos hw]
  obtain ⟨v', w', L', hr, k1, k2, k3⟩ := run_append_items2 o.type F base hF v L hrow p n c l hsrc hlen hbase
  unfold Oper.wp
  simp [execOp, ho, resolve, invoke, builtin, hs, hx, hr, Result.andThen]
  exact h v' w' L' k1 k2 k3

set_option maxHeartbeats 8000000 in
set_option maxRecDepth 100000 in
theorem rtake17_any {F : Nat → Prop} {w : World} {l : List It} {v : Value} {a : Int} (ha : IntKind.i64.wrap a = a) (hn : l.length ≤ 1000) (hl : Items F w v l) :
    Calls Tryz.prog 39 #[v, .int .i64 a] w (TkSays l a w) := by
  have hlen : l.length ≤ 2199023255552 := hl.len
  obtain ⟨p, c, rfl⟩ := hl.slice
  have hnw : (w.alloc (.cells (cells6 zeroI (.slice none 0 0)) 65)).heap[w.heap.size]? = some (.cells (cells6 zeroI (.slice none 0 0)) 65 (0, 0)) := heap_new w _
  have hb := alloc_below w (.cells (cells6 zeroI (.slice none 0 0)) 65)
  have hl1 : Items (fun g => g < w.heap.size) _ _ _ := (hl.mono (F' := fun g => g < w.heap.size) fun g _ h => h).under hb
  have HL := Lib.hid hl1
  clear hl hl1
  have post0 : ∀ w', Below w.heap.size w w' → ¬ inR l a → TkSays l a w (.returned (.tuple #[.slice none 0 0, .agg (cells6 zeroI (.slice none 0 0)), .int .i64 4])) w' := fun w' h k => ⟨_, zeroI, _, 4, [], rfl, Items.nil _ _, zero_trv _ _, h, .inl ⟨k, rfl, rfl, rfl⟩⟩
  by_cases h0 : a < 0
  · have P0 := Lib.hid (fun w' h => post0 w' h (by unfold inR; omega))
    clear post0
    go_enter Tryz.func39, Tryz.ntmps39
    go_upto_region 1 with fail
    change Code.wp _ _ _ _ (w.alloc (.cells (cells6 zeroI (.slice none 0 0)) 65))
    generalize w.alloc (.cells (cells6 zeroI (.slice none 0 0)) 65) = w1 at hnw hb HL ⊢
    have hr := setRow_heap' (cells := cells6 zeroI (.slice none 0 0)) hnw
    have hB := below_setRow (cells := cells6 zeroI (.slice none 0 0)) hb (Nat.le_refl _)
    go_wp2_with (refine wpList_store_row rfl 65 _ _ rfl w.heap.size (cells6 zeroI (.slice none 0 0)) (by kernel_rfl) (by kernel_rfl) 65 (cells6 zeroI (.slice none 0 0)) hnw (size69 _ _) (by kernel_rfl) (by kernel_rfl) ?_)
    exact bodyPost_ret (v := .tuple #[.slice none 0 0, .agg (cells6 zeroI (.slice none 0 0)), .int .i64 4]) (results_item Tryz.results39 _ _ _ _ _ rfl hr) rfl (P0.out _ hB)
  by_cases h1 : (l.length : Int) ≤ a
  · have P0 := Lib.hid (fun w' h => post0 w' h (by unfold inR; omega))
    clear post0
    go_enter Tryz.func39, Tryz.ntmps39
    go_upto_region 1 with fail
    change Code.wp _ _ _ _ (w.alloc (.cells (cells6 zeroI (.slice none 0 0)) 65))
    generalize w.alloc (.cells (cells6 zeroI (.slice none 0 0)) 65) = w1 at hnw hb HL ⊢
    have hr := setRow_heap' (cells := cells6 zeroI (.slice none 0 0)) hnw
    have hB := below_setRow (cells := cells6 zeroI (.slice none 0 0)) hb (Nat.le_refl _)
    go_wp2_with (refine wpList_store_row rfl 65 _ _ rfl w.heap.size (cells6 zeroI (.slice none 0 0)) (by kernel_rfl) (by kernel_rfl) 65 (cells6 zeroI (.slice none 0 0)) hnw (size69 _ _) (by kernel_rfl) (by kernel_rfl) ?_)
    exact bodyPost_ret (v := .tuple #[.slice none 0 0, .agg (cells6 zeroI (.slice none 0 0)), .int .i64 4]) (results_item Tryz.results39 _ _ _ _ _ rfl hr) rfl (P0.out _ hB)
  obtain ⟨k, rfl⟩ : ∃ k : Nat, a = k := ⟨a.toNat, by omega⟩
  have hk : k < l.length := by omega
  have hnk : ¬ (k : Int) < 0 := h0
  have hkl : ¬ (l.length : Int) ≤ (k : Int) := h1
  clear post0 h0 h1 ha
  go_enter Tryz.func39, Tryz.ntmps39
  go_upto_region 1 with fail
  change Code.wp _ _ _ _ (w.alloc (.cells (cells6 zeroI (.slice none 0 0)) 65))
  generalize w.alloc (.cells (cells6 zeroI (.slice none 0 0)) 65) = w1 at hnw hb HL ⊢
  have hz1 := (six_facts hnw).1
  obtain ⟨g, o, kv, rfl, _, ⟨a0, a1, a2, a3, a4⟩, a5, hkid⟩ := HL.out.at hk
  have hc := HL.out.room.2
  have e1 : (l.take k).length = k := by rw [List.length_take]; omega
  have e2 : (l.take (k + 1)).length = k + 1 := by rw [List.length_take]; omega
  have e3 : (l.drop (k + 1)).length = l.length - (k + 1) := List.length_drop
  have hs1 : Items (fun g => g < w.heap.size) w1 (.slice (some ⟨g, o, none⟩) k c) (l.take k) := by
    have h2 : Items (fun g => g < w.heap.size) w1 (.slice (some ⟨g, o, none⟩) l.length c) (l.take k ++ l.drop k) := by rw [List.take_append_drop]; exact HL.out
    have := h2.front c (by omega) (by simp)
    rwa [e1] at this
  have HS1 := Lib.hid hs1
  obtain ⟨p3, c3, rfl⟩ := hkid.kids.slice
  generalize hxk : l[k] = x at a0 a1 a2 a3 a4 a5 hkid
  have HXK := Lib.hid hxk
  have HKID := Lib.hid hkid
  have HE := Lib.hid (And.intro e1 (And.intro e2 e3))
  have hkc : (k : Int) ≤ (c : Int) := by omega
  clear hs1 e1 e2 e3 hkid hxk
  go_upto_region 5 with (at_builtin; refine wpList_append_items2 rfl (.tmp 17) (.tmp 20) rfl (fun g => g < w.heap.size) w1.heap.size (fun g hg => by omega) _ [] rfl (IRow2.nil _ _ _) _ _ _ (l.take k) rfl HS1.out (by have := HE.out.1; simp only [List.length_nil]; omega) (Nat.le_refl _) ?_; intro v5 w5 L5 hrow5 hLm5 hb5)
  rw [List.nil_append] at hrow5
  have hbd : Below w5.heap.size w5 w5.drew := below_drewN (Below.refl _ _) 1
  have hb5d : Below w1.heap.size w1 w5.drew := hb5.trans (hbd.mono hb5.size)
  have hl5 : L5.length = k := by have := congrArg List.length hLm5; rw [List.length_map, HE.out.1] at this; exact this
  have HROW := Lib.hid (hrow5.under hbd)
  have HLM := Lib.hid hLm5
  have HL5 := Lib.hid hl5
  have HZ5 := Lib.hid hb5d.size
  have HB5 := Lib.hid hb5d
  have b0 := (hb5d.cell (p := ⟨g, o + k * 6, none⟩) (cell_block a0)).trans a0
  have b1 := (hb5d.cell (p := ⟨g, o + k * 6 + 1, none⟩) (cell_block a1)).trans a1
  have b2 := (hb5d.cell (p := ⟨g, o + k * 6 + 2, none⟩) (cell_block a2)).trans a2
  have b3 := (hb5d.cell (p := ⟨g, o + k * 6 + 3, none⟩) (cell_block a3)).trans a3
  have b4 := (hb5d.cell (p := ⟨g, o + k * 6 + 4, none⟩) (cell_block a4)).trans a4
  have b5 := (hb5d.cell (p := ⟨g, o + k * 6 + 5, none⟩) (cell_block a5)).trans a5
  clear hrow5 hLm5 hl5
  have hw : IntKind.i64.wrap ((k : Int) + 1) = (k : Int) + 1 := by rw [IntKind.wrap_i64]; omega
  have hk0 : (0 : Int) ≤ (k : Int) + 1 := by omega
  have hki4 : ¬ (k : Int) + 1 < 0 := by omega
  have hki5 : ((k : Int) + 1).toNat = k + 1 := by omega
  by_cases hck : c = k + 1
  · have hs2 : Items (fun g => g < w.heap.size) w5.drew (.slice (some ⟨g, o, none⟩) 0 0) (l.drop (k + 1)) := by
      rw [List.drop_eq_nil_of_le (by omega)]
      exact ⟨_, 0, rfl, Nat.le_refl _, Nat.zero_le _, fun i hi => absurd hi (by simp), fun _ => rfl⟩
    have HS2 := Lib.hid hs2
    have hll : l.length = k + 1 := by omega
    clear hs2
    have hki : (k : Int) ≤ (k : Int) + 1 := by omega
    have hk9 : (k : Int) < (k : Int) + 1 := by omega
    go_region_law (refine step_append_items2 rfl (.tmp 22) (.tmp 26) rfl (fun g => g < w.heap.size) w1.heap.size (fun g hg => by omega) _ L5 (by simp [Act.eval, Act.put]) HROW.out _ _ _ (l.drop (k + 1)) (by simp [Act.eval, Act.put]) HS2.out (by have := HE.out.2.2; have := HL5.out; omega) HZ5.out ?_; intro v8 w8 L8 hrow8 hLm8 hb8; have hB8 : Below w1.heap.size w1 w8 := HB5.out.trans hb8; have d0 := (hB8.cell (p := ⟨g, o + k * 6, none⟩) (cell_block a0)).trans a0; have d1 := (hB8.cell (p := ⟨g, o + k * 6 + 1, none⟩) (cell_block a1)).trans a1; have d2 := (hB8.cell (p := ⟨g, o + k * 6 + 2, none⟩) (cell_block a2)).trans a2; have d3 := (hB8.cell (p := ⟨g, o + k * 6 + 3, none⟩) (cell_block a3)).trans a3; have d4 := (hB8.cell (p := ⟨g, o + k * 6 + 4, none⟩) (cell_block a4)).trans a4; have d5 := (hB8.cell (p := ⟨g, o + k * 6 + 5, none⟩) (cell_block a5)).trans a5; have hn8 := (hB8.block w.heap.size hz1).trans hnw; obtain ⟨_, ⟨s0, s1, s2, s3, s4, s5⟩, f0, f1, f2, f3, f4, f5⟩ := six_facts hn8; have HN8 := Lib.hid hn8; clear hn8)
    all_goals
      have HH := Lib.hid (six_heap (x := x) (sv := .slice p3 x.t.l.length c3) HN8.out)
      have HB := Lib.hid (hb.trans ((hB8.mono hb.size).trans (six_below x (.slice p3 x.t.l.length c3) (Nat.le_refl w.heap.size))))
      have HX : Hid (TrV (fun _ => True) (setSix w8 w.heap.size x (.slice p3 x.t.l.length c3)) x.t (.slice p3 x.t.l.length c3)) := by
        have h1 := HKID.out.below hB8
        exact ⟨h1.wf, (h1.kids.keep fun g hg hlt => (six_below x (.slice p3 x.t.l.length c3) (Nat.le_refl w.heap.size)).block g hg).mono fun _ _ _ => trivial⟩
      have HM : Hid (Items (fun _ => True) (setSix w8 w.heap.size x (.slice p3 x.t.l.length c3)) v8 (l.take k ++ l.drop (k + 1))) := by
        have hit8 := items_row (F := fun g => g ≠ w.heap.size) (L := L5 ++ L8) hrow8.own (fun g hg => by omega) (fun q hq => ⟨(hrow8.at_ q hq).wf, (hrow8.at_ q hq).kids.mono fun g hg _ => by omega⟩) (by have h1 := congrArg List.length hLm8; have := HL5.out; have := HE.out.2.2; rw [List.length_map] at h1; rw [List.length_append]; unfold BL; omega)
        rw [List.map_append, HLM.out, hLm8] at hit8
        exact (hit8.keep fun g hg _ => six_block x _ hg).mono fun _ _ _ => trivial
      clear s0 s1 s2 s3 s4 s5 f0 f1 f2 f3 f4 f5 d0 d1 d2 d3 d4 d5 a0 a1 a2 a3 a4 a5 b0 b1 b2 b3 b4 b5
      change Exit.then _ _ _ _ (setSix w8 w.heap.size x (.slice p3 x.t.l.length c3))
      generalize setSix w8 w.heap.size x (.slice p3 x.t.l.length c3) = w9 at HH HB HX HM ⊢
      go_wp2_with fail
      exact bodyPost_ret (v := .tuple #[v8, .agg (cells6 x (.slice p3 x.t.l.length c3)), .int .i64 0]) (results_item Tryz.results39 _ _ _ _ _ rfl HH.out) rfl ⟨v8, x, _, 0, _, rfl, HM.out, HX.out, HB.out, .inr ⟨k, hk, rfl, rfl, HXK.out.symm, rfl⟩⟩
  · have hs2 : Items (fun g => g < w.heap.size) w5.drew (.slice (some ⟨g, o + (k + 1) * 6, none⟩) (l.length - (k + 1)) (c - (k + 1))) (l.drop (k + 1)) := by
      have h1 := HL.out.under hb5d
      have h2 : Items (fun g => g < w.heap.size) w5.drew (.slice (some ⟨g, o, none⟩) l.length c) (l.take (k + 1) ++ l.drop (k + 1)) := by rw [List.take_append_drop]; exact h1
      have := h2.back
      rwa [HE.out.2.1, HE.out.2.2, addr_add] at this
    have HS2 := Lib.hid hs2
    clear hs2
    have hki2 : (k : Int) + 1 ≤ (l.length : Int) := by omega
    have hki3 : (l.length : Int) ≤ (c : Int) := by omega
    go_region_law (refine step_append_items2 rfl (.tmp 22) (.tmp 26) rfl (fun g => g < w.heap.size) w1.heap.size (fun g hg => by omega) _ L5 (by simp [Act.eval, Act.put]) HROW.out _ _ _ (l.drop (k + 1)) (by simp [Act.eval, Act.put]) HS2.out (by have := HE.out.2.2; have := HL5.out; omega) HZ5.out ?_; intro v8 w8 L8 hrow8 hLm8 hb8; have hB8 : Below w1.heap.size w1 w8 := HB5.out.trans hb8; have d0 := (hB8.cell (p := ⟨g, o + k * 6, none⟩) (cell_block a0)).trans a0; have d1 := (hB8.cell (p := ⟨g, o + k * 6 + 1, none⟩) (cell_block a1)).trans a1; have d2 := (hB8.cell (p := ⟨g, o + k * 6 + 2, none⟩) (cell_block a2)).trans a2; have d3 := (hB8.cell (p := ⟨g, o + k * 6 + 3, none⟩) (cell_block a3)).trans a3; have d4 := (hB8.cell (p := ⟨g, o + k * 6 + 4, none⟩) (cell_block a4)).trans a4; have d5 := (hB8.cell (p := ⟨g, o + k * 6 + 5, none⟩) (cell_block a5)).trans a5; have hn8 := (hB8.block w.heap.size hz1).trans hnw; obtain ⟨_, ⟨s0, s1, s2, s3, s4, s5⟩, f0, f1, f2, f3, f4, f5⟩ := six_facts hn8; have HN8 := Lib.hid hn8; clear hn8)
    all_goals
      have HH := Lib.hid (six_heap (x := x) (sv := .slice p3 x.t.l.length c3) HN8.out)
      have HB := Lib.hid (hb.trans ((hB8.mono hb.size).trans (six_below x (.slice p3 x.t.l.length c3) (Nat.le_refl w.heap.size))))
      have HX : Hid (TrV (fun _ => True) (setSix w8 w.heap.size x (.slice p3 x.t.l.length c3)) x.t (.slice p3 x.t.l.length c3)) := by
        have h1 := HKID.out.below hB8
        exact ⟨h1.wf, (h1.kids.keep fun g hg hlt => (six_below x (.slice p3 x.t.l.length c3) (Nat.le_refl w.heap.size)).block g hg).mono fun _ _ _ => trivial⟩
      have HM : Hid (Items (fun _ => True) (setSix w8 w.heap.size x (.slice p3 x.t.l.length c3)) v8 (l.take k ++ l.drop (k + 1))) := by
        have hit8 := items_row (F := fun g => g ≠ w.heap.size) (L := L5 ++ L8) hrow8.own (fun g hg => by omega) (fun q hq => ⟨(hrow8.at_ q hq).wf, (hrow8.at_ q hq).kids.mono fun g hg _ => by omega⟩) (by have h1 := congrArg List.length hLm8; have := HL5.out; have := HE.out.2.2; rw [List.length_map] at h1; rw [List.length_append]; unfold BL; omega)
        rw [List.map_append, HLM.out, hLm8] at hit8
        exact (hit8.keep fun g hg _ => six_block x _ hg).mono fun _ _ _ => trivial
      clear s0 s1 s2 s3 s4 s5 f0 f1 f2 f3 f4 f5 d0 d1 d2 d3 d4 d5 a0 a1 a2 a3 a4 a5 b0 b1 b2 b3 b4 b5
      change Exit.then _ _ _ _ (setSix w8 w.heap.size x (.slice p3 x.t.l.length c3))
      generalize setSix w8 w.heap.size x (.slice p3 x.t.l.length c3) = w9 at HH HB HX HM ⊢
      go_wp2_with fail
      exact bodyPost_ret (v := .tuple #[v8, .agg (cells6 x (.slice p3 x.t.l.length c3)), .int .i64 0]) (results_item Tryz.results39 _ _ _ _ _ rfl HH.out) rfl ⟨v8, x, _, 0, _, rfl, HM.out, HX.out, HB.out, .inr ⟨k, hk, rfl, rfl, HXK.out.symm, rfl⟩⟩
end Go.Proofs.YtlhobpknflobgaaGreatDoor
