/-
  mail.Take, pleachref17.Take. Conditions: the items lie as 'Items' says.
-/
import Derived.Test.YtlhobpknflobgaaGreatDoorMl7
import Derived.Deep.RegionLawGrows
import Derived.Laws.ResultCell
import Derived.BigRegion
namespace Go.Proofs.YtlhobpknflobgaaGreatDoor
open Go.RowKit

theorem run_append_zero {P : Program} {w : World} (t ty e : TypeId) (i : TypeInfo) (ht : P.underlying t = some (.slice e)) (hi : P.info? e = some i) (p q : Option Addr) (n c c2 : Nat) (hn : n ≤ c) :
    (Builtin.append_ #[t, t] ty #[.slice p n c, .slice q 0 c2]).run P w = .ok (.slice p n c) w := by
  cases q with
  | none => cases p <;> simp [Builtin.append_, run_underlying ht, sizeOf, typeInfo, hi, Builtin.lenOf, Builtin.firstCells, hn, storeCells]
  | some a =>
    have hf := run_firstCells_some (P := P) w i.size 0 a 0 c2 [] (by simp) (by simp)
    cases p <;> simp [Builtin.append_, run_underlying ht, sizeOf, typeInfo, hi, Builtin.lenOf, hf, hn, storeCells]

set_option maxRecDepth 10000 in
/-- An append behind a slice of items that is full. -/
theorem run_append_full {w : World} (ty : TypeId) {F G : Nat → Prop} (p : Option Addr) (n : Nat) (l : List It) (hs : Items F w (.slice p n n) l) (q : Option Addr) (m c2 : Nat) (r : List It) (hx : Items G w (.slice q m c2) r)
    (hlen : l.length + r.length ≤ 1048576) {H : Nat → Prop} (hFH : ∀ g, F g → H g) (hGH : ∀ g, G g → H g) (hH : ∀ g, w.heap.size ≤ g → H g) :
    ∃ v' w', (Builtin.append_ #[55, 55] ty #[.slice p n n, .slice q m c2]).run Tryz.prog w = .ok v' w' ∧ Items H w' v' (l ++ r) ∧ Below w.heap.size w w' := by
  obtain ⟨i0, hi, hz0, hz1, hz2⟩ := info_parts infoItem
  have hn : n = l.length := hs.room.1
  have hm : m = r.length := hx.room.1
  by_cases hr : r = []
  · subst hr
    subst hm
    exact ⟨_, _, run_append_zero _ ty _ i0 Tryz.underlying55 hi p q n n c2 (Nat.le_refl _), by rw [List.append_nil]; exact hs.mono fun g hg _ => hFH g hg, Below.refl _ _⟩
  have hr0 : 0 < r.length := by cases r with | nil => exact absurd rfl hr | cons a b => simp
  obtain ⟨L, hLm, hLt, hLc⟩ := hs.cells
  obtain ⟨R, hRm, hRt, hRc⟩ := hx.cells
  have hLl : L.length = l.length := by rw [← hLm, List.length_map]
  have hRl : R.length = r.length := by rw [← hRm, List.length_map]
  have hpl : ∀ u ∈ R.flatMap icells, u.oneCell' = true := fun u hu => by
    obtain ⟨q, hq, hu⟩ := List.mem_flatMap.1 hu
    exact icells_plain (hRt q hq) u hu
  have fin : ∀ v' w', w'.ownsRow w.heap.size 65 6 v' (n + m) (L.flatMap icells ++ R.flatMap icells) → w.grownBy w' none → Items H w' v' (l ++ r) ∧ Below w.heap.size w w' := by
    intro v' w' hown hg
    have hB : Below w.heap.size w w' := (Below.refl _ _).grown hg (Nat.le_refl _) (fun j hj => by cases hj)
    refine ⟨?_, hB⟩
    have := items_row (F := H) (L := L ++ R) (by rw [List.length_append, List.flatMap_append, hLl, hRl, ← hn, ← hm]; exact hown) hH (fun q hq => ?_) (by rw [List.length_append]; unfold BL; omega)
    · rwa [List.map_append, hLm, hRm] at this
    · rcases List.mem_append.1 hq with hq | hq
      · have h := (hLt q hq).below hB
        exact ⟨h.wf, h.kids.mono fun g hg _ => hFH g hg⟩
      · have h := (hRt q hq).below hB
        exact ⟨h.wf, h.kids.mono fun g hg _ => hGH g hg⟩
  cases q with
  | none => exact absurd (hx.none).1 (by omega)
  | some ad =>
    cases p with
    | some b =>
      obtain ⟨v', w', hrun, r1, r2⟩ := run_append_arg_grows (P := Tryz.prog) w 55 ty 65 i0 _ 6 80 Tryz.underlying55 hi hz0 hz1 hz2 rfl (by decide) b n n (L.flatMap icells) (by rw [flat6i_len, hLl, hn]) (hLc b rfl) ad m c2 (R.flatMap icells) (by rw [flat6i_len, hRl, hm]) (hRc ad rfl) (by omega) (by unfold maxLen; omega) (by omega)
      exact ⟨v', w', hrun, fin v' w' r1 r2⟩
    | none =>
      obtain ⟨h0, h1⟩ := hs.none
      obtain rfl : L = [] := List.eq_nil_of_length_eq_zero (by omega)
      obtain rfl : n = 0 := by omega
      obtain ⟨v', w', hrun, r1, r2, _⟩ := run_append_own (P := Tryz.prog) w w.heap.size 55 ty 65 i0 _ 6 80 Tryz.underlying55 hi hz0 hz1 hz2 rfl (by decide) (.slice none 0 0) 0 [] (World.ownsRow_nil w _ 65 6) ad m c2 (R.flatMap icells) (by rw [flat6i_len, hRl, hm]) (hRc ad rfl) hpl (by unfold maxLen; omega) (by omega) (Nat.le_refl _)
      exact ⟨v', w', hrun, fin v' w' r1 r2⟩
/-- As one step of a region that draws. -/
theorem step_append_full {w : World} {ops : Array Oper} {o : Oper} {a : Act} {K : Act → World → Prop} {Q : Exit → Act → World → Prop} {E : Prop} (hgd : o.guard = none) (s x : Operand)
    (ho : o.op = .call { callee := .builtin .append, args := #[s, x], argTypes := #[55, 55] }) {F G : Nat → Prop}
    (p : Option Addr) (n : Nat) (l : List It) (hsv : a.eval s = .slice p n n) (hs : Items F w (.slice p n n) l) (q : Option Addr) (m c2 : Nat) (r : List It) (hxv : a.eval x = .slice q m c2) (hx : Items G w (.slice q m c2) r)
    (hlen : l.length + r.length ≤ 1048576) {H : Nat → Prop} (hFH : ∀ g, F g → H g) (hGH : ∀ g, G g → H g) (hH : ∀ g, w.heap.size ≤ g → H g)
    (h : ∀ v' w', Items H w' v' (l ++ r) → Below w.heap.size w w' → K (a.put o.dst v') w') :
    if Region.wanted o (yielded ops a.tmps) = true then Oper.wp Tryz.prog o a w K Q else E := by
  have hw : Region.wanted o (yielded ops a.tmps) = true := by simp [Region.wanted, hgd]
  rw [if_pos hw]
  obtain ⟨v', w', hr, k1, k2⟩ := run_append_full (w := w) o.type p n l hs q m c2 r hx hlen hFH hGH hH
  unfold Oper.wp
  simp [execOp, ho, resolve, invoke, builtin, hsv, hxv, hr, Result.andThen]
  exact h v' w' k1 k2

def zeroI : It := ⟨zeroT, false⟩
/-- An item's six cells, as an array. -/
def cells6 (x : It) (sv : Value) : Array Value := #[.int .i8 x.t.k, .int .i64 x.t.n, .string x.t.s, .string x.t.t, sv, .bool x.o]
theorem size69 (x : It) (sv : Value) : (Tryz.prog.info? 65).map (·.size) = some (cells6 x sv).size := by kernel_rfl
theorem info69 (w : World) (g : Nat) (x : It) (sv : Value) (hg : w.heap[g]? = some (.cells (cells6 x sv) 65 (0, 0))) : (loadVar 65 ⟨g, 0, none⟩).run Tryz.prog w = .ok (.agg (cells6 x sv)) w :=
  run_loadVar_row w g 65 65 (cells6 x sv) (0, 0) _ hg Tryz.underlying65 rfl (size69 x sv)
theorem results_item {fn : Func} {a p u : Tmp} (h : fn.results = #[.tmp a, .cell p 65, .tmp u]) (tmps : Array Value) (w : World) (g : Nat) (x : It) (sv : Value) (hp : tmps.getD p undef = .pointer (some ⟨g, 0, none⟩)) (hg : w.heap[g]? = some (.cells (cells6 x sv) 65 (0, 0))) :
    (results fn tmps).run Tryz.prog w = .ok (.tuple #[tmps.getD a undef, .agg (cells6 x sv), tmps.getD u undef]) w := by
  have h0 : (results fn tmps).run Tryz.prog w = ((asAddr (tmps.getD p undef)).run Tryz.prog w).andThen fun b w₁ => ((loadVar 65 b).run Tryz.prog w₁).andThen fun v w₂ => .ok (.tuple #[tmps.getD a undef, v, tmps.getD u undef]) w₂ := by
    simp only [results, h]
    simp [Sem.run_bind, Result.andThen]
  rw [h0, hp]
  simp only [asAddr, Sem.run_pure, Result.andThen, info69 w g x sv hg]

def setSix (w : World) (b : Nat) (x : It) (sv : Value) : World := (((((w.setCell ⟨b, 0, none⟩ (.int .i8 x.t.k)).setCell ⟨b, 1, none⟩ (.int .i64 x.t.n)).setCell ⟨b, 2, none⟩ (.string x.t.s)).setCell ⟨b, 3, none⟩ (.string x.t.t)).setCell ⟨b, 4, none⟩ sv).setCell ⟨b, 5, none⟩ (.bool x.o)
theorem six_heap {w : World} {b : Nat} {z x : It} {zv sv : Value} {T : TypeId} (h : w.heap[b]? = some (.cells (cells6 z zv) T (0, 0))) : (setSix w b x sv).heap[b]? = some (.cells (cells6 x sv) T (0, 0)) := by
  have h0 := arr_set (i := 0) (u := .int .i8 x.t.k) h
  have h1 := arr_set (i := 1) (u := .int .i64 x.t.n) h0
  have h2 := arr_set (i := 2) (u := .string x.t.s) h1
  have h3 := arr_set (i := 3) (u := .string x.t.t) h2
  have h4 := arr_set (i := 4) (u := sv) h3
  have h5 := arr_set (i := 5) (u := .bool x.o) h4
  unfold setSix
  rw [h5]
  have e : ((((((cells6 z zv).modify 0 fun _ => .int .i8 x.t.k).modify 1 fun _ => .int .i64 x.t.n).modify 2 fun _ => .string x.t.s).modify 3 fun _ => .string x.t.t).modify 4 fun _ => sv).modify 5 (fun _ => .bool x.o) = cells6 x sv := by kernel_rfl
  rw [e]
theorem six_facts {w : World} {b : Nat} {x : It} {sv : Value} {T : TypeId} (h : w.heap[b]? = some (.cells (cells6 x sv) T (0, 0))) :
    b < w.heap.size ∧ (w.cell? ⟨b, 0, none⟩ = some (.int .i8 x.t.k) ∧ w.cell? ⟨b, 1, none⟩ = some (.int .i64 x.t.n) ∧ w.cell? ⟨b, 2, none⟩ = some (.string x.t.s) ∧ w.cell? ⟨b, 3, none⟩ = some (.string x.t.t) ∧ w.cell? ⟨b, 4, none⟩ = some sv ∧ w.cell? ⟨b, 5, none⟩ = some (.bool x.o)) ∧
    (w.frozen? ⟨b, 0, none⟩ = false ∧ w.frozen? ⟨b, 1, none⟩ = false ∧ w.frozen? ⟨b, 2, none⟩ = false ∧ w.frozen? ⟨b, 3, none⟩ = false ∧ w.frozen? ⟨b, 4, none⟩ = false ∧ w.frozen? ⟨b, 5, none⟩ = false) :=
  have c : ∀ i, w.cell? ⟨b, i, none⟩ = (cells6 x sv)[i]? := fun _ => arr_cell h
  have c0 : w.cell? ⟨b, 0, none⟩ = some (.int .i8 x.t.k) := c 0
  ⟨cell_block c0, ⟨c0, c 1, c 2, c 3, c 4, c 5⟩, arr_free h, arr_free h, arr_free h, arr_free h, arr_free h, arr_free h⟩
theorem below_set (w : World) {b B : Nat} (i : Nat) (u : Value) (hB : B ≤ b) : Below B w (w.setCell ⟨b, i, none⟩ u) :=
  ⟨rfl, rfl, rfl, by simp [World.setCell], fun k hk => Below.heap_setCell _ _ _ _ (by simp only; omega)⟩
theorem six_below {w : World} {b B : Nat} (x : It) (sv : Value) (hB : B ≤ b) : Below B w (setSix w b x sv) := by
  have h1 := below_set w 0 (.int .i8 x.t.k) hB
  have h2 := h1.trans (below_set _ 1 (.int .i64 x.t.n) hB)
  have h3 := h2.trans (below_set _ 2 (.string x.t.s) hB)
  have h4 := h3.trans (below_set _ 3 (.string x.t.t) hB)
  have h5 := h4.trans (below_set _ 4 sv hB)
  exact h5.trans (below_set _ 5 (.bool x.o) hB)
theorem six_block {w : World} {b : Nat} (x : It) (sv : Value) {k : Nat} (hk : k ≠ b) : (setSix w b x sv).heap[k]? = w.heap[k]? := by
  have h := fun (W : World) (i : Nat) (u : Value) => Below.heap_setCell W ⟨b, i, none⟩ u k hk
  unfold setSix
  rw [h, h, h, h, h, h]

def inR (l : List It) (a : Int) : Prop := 0 ≤ a ∧ a < l.length
/-- What taking one out tells. -/
def TkSays (l : List It) (a : Int) (w : World) (e : Ending) (w' : World) : Prop :=
  ∃ v x sv er m, e = .returned (.tuple #[v, .agg (cells6 x sv), .int .i64 er]) ∧ Items (fun _ => True) w' v m ∧ TrV (fun _ => True) w' x.t sv ∧ Below w.heap.size w w' ∧
    ((¬ inR l a ∧ m = [] ∧ x = zeroI ∧ er = 4) ∨ ∃ k : Nat, ∃ h : k < l.length, a = k ∧ m = l.take k ++ l.drop (k + 1) ∧ x = l[k] ∧ er = 0)

set_option maxHeartbeats 8000000 in
set_option maxRecDepth 100000 in
theorem take17_any {F : Nat → Prop} {w : World} {l : List It} {v : Value} {a : Int} (ha : IntKind.i64.wrap a = a) (hn : l.length ≤ 1000) (hl : Items F w v l) :
    Calls Tryz.prog 38 #[v, .int .i64 a] w (TkSays l a w) := by
  have hlen : l.length ≤ 2199023255552 := hl.len
  obtain ⟨p, c, rfl⟩ := hl.slice
  have hnw : (w.alloc (.cells (cells6 zeroI (.slice none 0 0)) 65)).heap[w.heap.size]? = some (.cells (cells6 zeroI (.slice none 0 0)) 65 (0, 0)) := heap_new w _
  have hb := alloc_below w (.cells (cells6 zeroI (.slice none 0 0)) 65)
  have hl1 : Items (fun g => g < w.heap.size) _ _ _ := (hl.mono (F' := fun g => g < w.heap.size) fun g _ h => h).under hb
  have HL := Lib.hid hl1
  clear hl hl1
  have post0 : ∀ w', Below w.heap.size w w' → ¬ inR l a → TkSays l a w (.returned (.tuple #[.slice none 0 0, .agg (cells6 zeroI (.slice none 0 0)), .int .i64 4])) w' := fun w' h k => ⟨_, zeroI, _, 4, [], rfl, Items.nil _ _, zero_trv _ _, h, .inl ⟨k, rfl, rfl, rfl⟩⟩
  by_cases h0 : a < 0
  · have P0 := Lib.hid (fun w' h => post0 w' h (by unfold inR; omega))
    clear post0
    go_enter Tryz.func38, Tryz.ntmps38
    go_upto_region 1 with fail
    change Code.wp _ _ _ _ (w.alloc (.cells (cells6 zeroI (.slice none 0 0)) 65))
    generalize w.alloc (.cells (cells6 zeroI (.slice none 0 0)) 65) = w1 at hnw hb HL ⊢
    have hr := setRow_heap' (cells := cells6 zeroI (.slice none 0 0)) hnw
    have hB := below_setRow (cells := cells6 zeroI (.slice none 0 0)) hb (Nat.le_refl _)
    go_wp2_with (refine wpList_store_row rfl 65 _ _ rfl w.heap.size (cells6 zeroI (.slice none 0 0)) (by kernel_rfl) (by kernel_rfl) 65 (cells6 zeroI (.slice none 0 0)) hnw (size69 _ _) (by kernel_rfl) (by kernel_rfl) ?_)
    exact bodyPost_ret (v := .tuple #[.slice none 0 0, .agg (cells6 zeroI (.slice none 0 0)), .int .i64 4]) (results_item Tryz.results38 _ _ _ _ _ rfl hr) rfl (P0.out _ hB)
  by_cases h1 : (l.length : Int) ≤ a
  · have P0 := Lib.hid (fun w' h => post0 w' h (by unfold inR; omega))
    clear post0
    go_enter Tryz.func38, Tryz.ntmps38
    go_upto_region 1 with fail
    change Code.wp _ _ _ _ (w.alloc (.cells (cells6 zeroI (.slice none 0 0)) 65))
    generalize w.alloc (.cells (cells6 zeroI (.slice none 0 0)) 65) = w1 at hnw hb HL ⊢
    have hr := setRow_heap' (cells := cells6 zeroI (.slice none 0 0)) hnw
    have hB := below_setRow (cells := cells6 zeroI (.slice none 0 0)) hb (Nat.le_refl _)
    go_wp2_with (refine wpList_store_row rfl 65 _ _ rfl w.heap.size (cells6 zeroI (.slice none 0 0)) (by kernel_rfl) (by kernel_rfl) 65 (cells6 zeroI (.slice none 0 0)) hnw (size69 _ _) (by kernel_rfl) (by kernel_rfl) ?_)
    exact bodyPost_ret (v := .tuple #[.slice none 0 0, .agg (cells6 zeroI (.slice none 0 0)), .int .i64 4]) (results_item Tryz.results38 _ _ _ _ _ rfl hr) rfl (P0.out _ hB)
  obtain ⟨k, rfl⟩ : ∃ k : Nat, a = k := ⟨a.toNat, by omega⟩
  have hk : k < l.length := by omega
  have hnk : ¬ (k : Int) < 0 := h0
  have hkl : ¬ (l.length : Int) ≤ (k : Int) := h1
  clear post0 h0 h1 ha
  go_enter Tryz.func38, Tryz.ntmps38
  go_upto_region 1 with fail
  change Code.wp _ _ _ _ (w.alloc (.cells (cells6 zeroI (.slice none 0 0)) 65))
  generalize w.alloc (.cells (cells6 zeroI (.slice none 0 0)) 65) = w1 at hnw hb HL ⊢
  go_upto_region 3 with fail
  have hz1 := (six_facts hnw).1
  obtain ⟨g, o, kv, rfl, _, ⟨a0, a1, a2, a3, a4⟩, a5, hkid⟩ := HL.out.at hk
  have hc := HL.out.room.2
  have hbd : Below w1.heap.size w1 w1.drew := below_drewN (Below.refl _ _) 1
  have hsplit : l = l.take k ++ l.drop k := (List.take_append_drop k l).symm
  have hsplit2 : l = l.take (k + 1) ++ l.drop (k + 1) := (List.take_append_drop (k + 1) l).symm
  have e1 : (l.take k).length = k := by rw [List.length_take]; omega
  have e2 : (l.take (k + 1)).length = k + 1 := by rw [List.length_take]; omega
  have e3 : (l.drop (k + 1)).length = l.length - (k + 1) := List.length_drop
  have hs1 : Items (fun g => g < w.heap.size) w1.drew (.slice (some ⟨g, o, none⟩) k k) (l.take k) := by
    have h1 := HL.out.under hbd
    have h2 : Items (fun g => g < w.heap.size) w1.drew (.slice (some ⟨g, o, none⟩) l.length c) (l.take k ++ l.drop k) := by rw [List.take_append_drop]; exact h1
    have := h2.front k (by omega) (by simp)
    rwa [e1] at this
  have HS1 := Lib.hid hs1
  obtain ⟨p3, c3, rfl⟩ := hkid.kids.slice
  generalize hxk : l[k] = x at a0 a1 a2 a3 a4 a5 hkid
  have HXK := Lib.hid hxk
  have HKID := Lib.hid hkid
  have HE := Lib.hid (And.intro e1 (And.intro e2 e3))
  clear hs1 hsplit hsplit2 e1 e2 e3 hkid hxk
  by_cases hck : c = k + 1
  · have hs2 : Items (fun g => g < w.heap.size) w1.drew (.slice (some ⟨g, o, none⟩) 0 0) (l.drop (k + 1)) := by
      rw [List.drop_eq_nil_of_le (by omega)]
      exact ⟨_, 0, rfl, Nat.le_refl _, Nat.zero_le _, fun i hi => absurd hi (by simp), fun _ => rfl⟩
    have HS2 := Lib.hid hs2
    have hll : l.length = k + 1 := by omega
    clear hs2
    have hw : IntKind.i64.wrap ((k : Int) + 1) = (k : Int) + 1 := by rw [IntKind.wrap_i64]; omega
    have hki : (k : Int) ≤ (k : Int) + 1 := by omega
    have hk0 : (0 : Int) ≤ (k : Int) + 1 := by omega
    have hk9 : (k : Int) < (k : Int) + 1 := by omega
    go_region_law (refine step_append_full rfl (.tmp 19) (.tmp 23) rfl _ k (l.take k) (by simp [Act.eval, Act.put]) HS1.out _ _ _ (l.drop (k + 1)) (by simp [Act.eval, Act.put]) HS2.out (by have := HE.out; omega) (H := fun g => g ≠ w.heap.size) (fun g hg => by omega) (fun g hg => by omega) (fun g hg => by have := hbd.size; omega) ?_; intro v8 w8 hit8 hb8; have hB8 : Below w1.heap.size w1 w8 := hbd.trans (hb8.mono hbd.size); have d0 := (hB8.cell (p := ⟨g, o + k * 6, none⟩) (cell_block a0)).trans a0; have d1 := (hB8.cell (p := ⟨g, o + k * 6 + 1, none⟩) (cell_block a1)).trans a1; have d2 := (hB8.cell (p := ⟨g, o + k * 6 + 2, none⟩) (cell_block a2)).trans a2; have d3 := (hB8.cell (p := ⟨g, o + k * 6 + 3, none⟩) (cell_block a3)).trans a3; have d4 := (hB8.cell (p := ⟨g, o + k * 6 + 4, none⟩) (cell_block a4)).trans a4; have d5 := (hB8.cell (p := ⟨g, o + k * 6 + 5, none⟩) (cell_block a5)).trans a5; have hn8 := (hB8.block w.heap.size hz1).trans hnw; obtain ⟨_, ⟨s0, s1, s2, s3, s4, s5⟩, f0, f1, f2, f3, f4, f5⟩ := six_facts hn8; have HN8 := Lib.hid hn8; clear hn8)
    all_goals
      have HH := Lib.hid (six_heap (x := x) (sv := .slice p3 x.t.l.length c3) HN8.out)
      have HB := Lib.hid (hb.trans ((hB8.mono hb.size).trans (six_below x (.slice p3 x.t.l.length c3) (Nat.le_refl w.heap.size))))
      have HX : Hid (TrV (fun _ => True) (setSix w8 w.heap.size x (.slice p3 x.t.l.length c3)) x.t (.slice p3 x.t.l.length c3)) := by
        have h1 := HKID.out.below hB8
        exact ⟨h1.wf, (h1.kids.keep fun g hg hlt => (six_below x (.slice p3 x.t.l.length c3) (Nat.le_refl w.heap.size)).block g hg).mono fun _ _ _ => trivial⟩
      have HM : Hid (Items (fun _ => True) (setSix w8 w.heap.size x (.slice p3 x.t.l.length c3)) v8 (l.take k ++ l.drop (k + 1))) := by
        exact (hit8.keep fun g hg _ => six_block x _ hg).mono fun _ _ _ => trivial
      clear s0 s1 s2 s3 s4 s5 f0 f1 f2 f3 f4 f5 d0 d1 d2 d3 d4 d5 a0 a1 a2 a3 a4 a5
      change Exit.then _ _ _ _ (setSix w8 w.heap.size x (.slice p3 x.t.l.length c3))
      generalize setSix w8 w.heap.size x (.slice p3 x.t.l.length c3) = w9 at HH HB HX HM ⊢
      go_wp2_with fail
      exact bodyPost_ret (v := .tuple #[v8, .agg (cells6 x (.slice p3 x.t.l.length c3)), .int .i64 0]) (results_item Tryz.results38 _ _ _ _ _ rfl HH.out) rfl ⟨v8, x, _, 0, _, rfl, HM.out, HX.out, HB.out, .inr ⟨k, hk, rfl, rfl, HXK.out.symm, rfl⟩⟩
  · have hs2 : Items (fun g => g < w.heap.size) w1.drew (.slice (some ⟨g, o + (k + 1) * 6, none⟩) (l.length - (k + 1)) (c - (k + 1))) (l.drop (k + 1)) := by
      have h1 := HL.out.under hbd
      have h2 : Items (fun g => g < w.heap.size) w1.drew (.slice (some ⟨g, o, none⟩) l.length c) (l.take (k + 1) ++ l.drop (k + 1)) := by rw [List.take_append_drop]; exact h1
      have := h2.back
      rwa [HE.out.2.1, HE.out.2.2, addr_add] at this
    have HS2 := Lib.hid hs2
    clear hs2
    have hw : IntKind.i64.wrap ((k : Int) + 1) = (k : Int) + 1 := by rw [IntKind.wrap_i64]; omega
    have hki : (k : Int) ≤ (c : Int) := by omega
    have hki2 : (k : Int) + 1 ≤ (l.length : Int) := by omega
    have hki3 : (l.length : Int) ≤ (c : Int) := by omega
    have hki4 : ¬ (k : Int) + 1 < 0 := by omega
    have hki5 : ((k : Int) + 1).toNat = k + 1 := by omega
    have hk0 : (0 : Int) ≤ (k : Int) + 1 := by omega
    have hk9 : (k : Int) < (k : Int) + 1 := by omega
    go_region_law (refine step_append_full rfl (.tmp 19) (.tmp 23) rfl _ k (l.take k) (by simp [Act.eval, Act.put]) HS1.out _ _ _ (l.drop (k + 1)) (by simp [Act.eval, Act.put]) HS2.out (by have := HE.out; omega) (H := fun g => g ≠ w.heap.size) (fun g hg => by omega) (fun g hg => by omega) (fun g hg => by have := hbd.size; omega) ?_; intro v8 w8 hit8 hb8; have hB8 : Below w1.heap.size w1 w8 := hbd.trans (hb8.mono hbd.size); have d0 := (hB8.cell (p := ⟨g, o + k * 6, none⟩) (cell_block a0)).trans a0; have d1 := (hB8.cell (p := ⟨g, o + k * 6 + 1, none⟩) (cell_block a1)).trans a1; have d2 := (hB8.cell (p := ⟨g, o + k * 6 + 2, none⟩) (cell_block a2)).trans a2; have d3 := (hB8.cell (p := ⟨g, o + k * 6 + 3, none⟩) (cell_block a3)).trans a3; have d4 := (hB8.cell (p := ⟨g, o + k * 6 + 4, none⟩) (cell_block a4)).trans a4; have d5 := (hB8.cell (p := ⟨g, o + k * 6 + 5, none⟩) (cell_block a5)).trans a5; have hn8 := (hB8.block w.heap.size hz1).trans hnw; obtain ⟨_, ⟨s0, s1, s2, s3, s4, s5⟩, f0, f1, f2, f3, f4, f5⟩ := six_facts hn8; have HN8 := Lib.hid hn8; clear hn8)
    all_goals
      have HH := Lib.hid (six_heap (x := x) (sv := .slice p3 x.t.l.length c3) HN8.out)
      have HB := Lib.hid (hb.trans ((hB8.mono hb.size).trans (six_below x (.slice p3 x.t.l.length c3) (Nat.le_refl w.heap.size))))
      have HX : Hid (TrV (fun _ => True) (setSix w8 w.heap.size x (.slice p3 x.t.l.length c3)) x.t (.slice p3 x.t.l.length c3)) := by
        have h1 := HKID.out.below hB8
        exact ⟨h1.wf, (h1.kids.keep fun g hg hlt => (six_below x (.slice p3 x.t.l.length c3) (Nat.le_refl w.heap.size)).block g hg).mono fun _ _ _ => trivial⟩
      have HM : Hid (Items (fun _ => True) (setSix w8 w.heap.size x (.slice p3 x.t.l.length c3)) v8 (l.take k ++ l.drop (k + 1))) := by
        exact (hit8.keep fun g hg _ => six_block x _ hg).mono fun _ _ _ => trivial
      clear s0 s1 s2 s3 s4 s5 f0 f1 f2 f3 f4 f5 d0 d1 d2 d3 d4 d5 a0 a1 a2 a3 a4 a5
      change Exit.then _ _ _ _ (setSix w8 w.heap.size x (.slice p3 x.t.l.length c3))
      generalize setSix w8 w.heap.size x (.slice p3 x.t.l.length c3) = w9 at HH HB HX HM ⊢
      go_wp2_with fail
      exact bodyPost_ret (v := .tuple #[v8, .agg (cells6 x (.slice p3 x.t.l.length c3)), .int .i64 0]) (results_item Tryz.results38 _ _ _ _ _ rfl HH.out) rfl ⟨v8, x, _, 0, _, rfl, HM.out, HX.out, HB.out, .inr ⟨k, hk, rfl, rfl, HXK.out.symm, rfl⟩⟩
end Go.Proofs.YtlhobpknflobgaaGreatDoor
