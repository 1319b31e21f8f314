/-
  match.one: a pattern against a term, by its kind. Conditions: the trees lie as 'TrV' says, the names as 'Binds'; the pattern and the term may be.
-/
import Derived.Test.YtlhobpknflobgaaGreatDoorS14
import Derived.Deep.RegionHeld3
import Derived.Laws.Tables
import Derived.Laws.Rows
namespace Go.Proofs.YtlhobpknflobgaaGreatDoor
open Go.RowKit

def nil11 : Array Value := #[.nilFunc, .nilFunc, .nilFunc, .nilFunc, .nilFunc, .nilFunc, .nilFunc, .nilFunc, .nilFunc, .nilFunc, .nilFunc]
def rulesV (b : Nat) : Array Value := #[.nilFunc, .nilFunc, .nilFunc, .nilFunc, .nilFunc, .func (Fn.func 202) #[] #[], .func (Fn.func 217) #[] #[.pointer (some ⟨b, 0, none⟩)], .func (Fn.func 217) #[] #[.pointer (some ⟨b + 1, 0, none⟩)], .func (Fn.func 217) #[] #[.pointer (some ⟨b + 1 + 1, 0, none⟩)], .func (Fn.func 218) #[] #[.pointer (some ⟨b + 1 + 1 + 1, 0, none⟩)], .func (Fn.func 218) #[] #[.pointer (some ⟨b + 1 + 1 + 1 + 1, 0, none⟩)]]
theorem size11 (b : Nat) : (Tryz.prog.info? 205).map (·.size) = some (rulesV b).size := by kernel_rfl

theorem six_new (w : World) (o0 o1 o2 o3 o4 : Obj) (T : TypeId) (old cells : Array Value) :
    let W := ((((((w.alloc o0).alloc o1).alloc o2).alloc o3).alloc o4).alloc (.cells old T)).setRow (w.heap.size + 1 + 1 + 1 + 1 + 1) cells
    W.heap[w.heap.size]? = some o0 ∧ W.heap[w.heap.size + 1]? = some o1 ∧ W.heap[w.heap.size + 1 + 1]? = some o2 ∧ W.heap[w.heap.size + 1 + 1 + 1]? = some o3 ∧ W.heap[w.heap.size + 1 + 1 + 1 + 1]? = some o4 ∧ W.heap[w.heap.size + 1 + 1 + 1 + 1 + 1]? = some (.cells cells T (0, 0)) ∧ Below w.heap.size w W := by
  intro W
  have e : ∀ (X : World) (g i : Nat), i ≠ g → (X.setRow g cells).heap[i]? = X.heap[i]? := by
    intro X g i h
    simp [World.setRow, Array.getElem?_modify]
    omega
  have z : ∀ (X : World) (o : Obj), (X.alloc o).heap.size = X.heap.size + 1 := fun X o => by simp
  have hB := below_setRow (cells := cells) ((((((alloc_below w o0).alloc (by simp) o1).alloc (by simp; omega) o2).alloc (by simp; omega) o3).alloc (by simp; omega) o4).alloc (by simp; omega) (.cells old T)) (show w.heap.size ≤ w.heap.size + 1 + 1 + 1 + 1 + 1 by omega)
  have z1 := z w o0
  have n1 := heap_new w o0
  revert W
  revert hB
  generalize w.alloc o0 = X1 at z1 n1
  have z2 := z X1 o1
  have n2 := heap_new X1 o1
  have m12 := fun i (h : i < X1.heap.size) => heap_old X1 o1 h
  generalize X1.alloc o1 = X2 at z2 n2 m12
  have z3 := z X2 o2
  have n3 := heap_new X2 o2
  have m23 := fun i (h : i < X2.heap.size) => heap_old X2 o2 h
  generalize X2.alloc o2 = X3 at z3 n3 m23
  have z4 := z X3 o3
  have n4 := heap_new X3 o3
  have m34 := fun i (h : i < X3.heap.size) => heap_old X3 o3 h
  generalize X3.alloc o3 = X4 at z4 n4 m34
  have z5 := z X4 o4
  have n5 := heap_new X4 o4
  have m45 := fun i (h : i < X4.heap.size) => heap_old X4 o4 h
  generalize X4.alloc o4 = X5 at z5 n5 m45
  have n6 := heap_new X5 (.cells old T)
  have m56 := fun i (h : i < X5.heap.size) => heap_old X5 (.cells old T) h
  generalize X5.alloc (.cells old T) = X6 at n6 m56
  intro hB W
  rw [show X5.heap.size = w.heap.size + 1 + 1 + 1 + 1 + 1 by omega] at n6
  rw [show X4.heap.size = w.heap.size + 1 + 1 + 1 + 1 by omega] at n5
  rw [show X3.heap.size = w.heap.size + 1 + 1 + 1 by omega] at n4
  rw [show X2.heap.size = w.heap.size + 1 + 1 by omega] at n3
  rw [show X1.heap.size = w.heap.size + 1 by omega] at n2
  have E : ∀ i, i ≠ w.heap.size + 1 + 1 + 1 + 1 + 1 → W.heap[i]? = X6.heap[i]? := fun i h => e X6 _ i h
  refine ⟨?_, ?_, ?_, ?_, ?_, setRow_heap' n6, hB⟩
  · rw [E _ (by omega), m56 _ (by omega), m45 _ (by omega), m34 _ (by omega), m23 _ (by omega), m12 _ (by omega), n1]
  · rw [E _ (by omega), m56 _ (by omega), m45 _ (by omega), m34 _ (by omega), m23 _ (by omega), n2]
  · rw [E _ (by omega), m56 _ (by omega), m45 _ (by omega), m34 _ (by omega), n3]
  · rw [E _ (by omega), m56 _ (by omega), m45 _ (by omega), n4]
  · rw [E _ (by omega), m56 _ (by omega), n5]

theorem emp_nil {s : ByteArray} (h : emp s = true) : s.toList = [] := by unfold emp at h; simpa using h
theorem go_leaf {p x : Tr} {l : List Bd} (hp : p.pat = true) (hx : chkT x = 0) {kk : Int} (h : p.k = 6 ∧ kk = 0 ∨ p.k = 7 ∧ kk = 1 ∨ p.k = 8 ∧ kk = 6) :
    p.go x l = if (x.k == kk && (x.n == p.n && x.s.toList == p.s.toList)) = true then some l else none := by
  obtain ⟨o0, o1, o6, _⟩ := one_cases (chk_one hx)
  have hc := pat_cases hp
  rw [go_eq]
  rcases h with ⟨hk, rfl⟩ | ⟨hk, rfl⟩ | ⟨hk, rfl⟩
  all_goals rw [hk] at hc ⊢; simp at hc
  · rw [if_neg (by decide), if_pos rfl]
    by_cases h0 : x.k = 0
    · simp [h0, emp_nil (o0 h0), emp_nil hc.1]
    · simp [h0]
  · rw [if_neg (by decide), if_neg (by decide), if_pos rfl]
    by_cases h0 : x.k = 1
    · simp [h0, o1 h0, hc.1]
    · simp [h0]
  · rw [if_neg (by decide), if_neg (by decide), if_neg (by decide), if_pos rfl]
    by_cases h0 : x.k = 6
    · simp [h0, (o6 h0).1, emp_nil (o6 h0).2, hc.1, emp_nil hc.2.1]
    · simp [h0]
theorem go_whole {p x : Tr} {l : List Bd} (hp : p.pat = true) (hx : chkT x = 0) {kk : Int} (h : p.k = 9 ∧ kk = 7 ∨ p.k = 10 ∧ kk = 5) : p.go x l = wholeS kk p x l := by
  obtain ⟨_, _, _, o7⟩ := one_cases (chk_one hx)
  have hc := pat_cases hp
  rw [go_eq]
  unfold wholeS
  rcases h with ⟨hk, rfl⟩ | ⟨hk, rfl⟩
  all_goals rw [hk] at hc ⊢; simp at hc
  · rw [if_neg (by decide), if_neg (by decide), if_neg (by decide), if_neg (by decide), if_pos rfl]
    by_cases h0 : x.k = 7
    · rw [if_pos h0, if_pos ⟨h0, by rw [o7 h0, hc.1]⟩]
    · rw [if_neg h0, if_neg (fun h => h0 h.1)]
  · rw [if_neg (by decide), if_neg (by decide), if_neg (by decide), if_neg (by decide), if_neg (by decide)]
    by_cases h0 : x.k = 5 ∧ x.l.length = p.l.length
    · rw [if_pos ⟨h0.1, by omega⟩, if_pos h0]
    · rw [if_neg (fun h => h0 ⟨h.1, by omega⟩), if_neg h0]
theorem pat_kids {p : Tr} (hp : p.pat = true) (hk : p.k = 9 ∨ p.k = 10) : Tr.pat.patl p.l = true := by
  have hc := pat_cases hp
  rcases hk with hk | hk <;> rw [hk] at hc <;> simp at hc
  · exact hc.2.2.2
  · exact hc.2.2
theorem pat_kind {p : Tr} (hp : p.pat = true) : p.k = 5 ∨ p.k = 6 ∨ p.k = 7 ∨ p.k = 8 ∨ p.k = 9 ∨ p.k = 10 := by
  rcases pat_cases hp with h | h | h | h | ⟨h | h, _⟩
  · exact .inl h.1
  · exact .inr (.inl h.1)
  · exact .inr (.inr (.inl h.1))
  · exact .inr (.inr (.inr (.inl h.1)))
  · exact .inr (.inr (.inr (.inr (.inr h))))
  · exact .inr (.inr (.inr (.inr (.inl h.1))))
theorem GoHyp.under {F : Nat → Prop} {p x : Tr} {l : List Bd} {w W : World} {pv xv v : Value} (h : GoHyp F p x l w pv xv v) (hb : Below w.heap.size w W) : GoHyp F p x l W pv xv v :=
  ⟨h.lt.under hb, fun k hk => h.fr k (by have := hb.size; omega), h.hp.below hb, h.hx.below hb, h.hl.under hb, h.pat, h.chk, h.chl, h.len⟩

set_option maxHeartbeats 4000000 in
set_option maxRecDepth 100000 in
theorem mone_any {F : Nat → Prop} (p : Tr) : OneSays F p := by
  induction p using Tr.ind with
  | h p ih =>
    intro x l w pv xv v h
    obtain ⟨p1, c1, rfl⟩ := h.hp.kids.slice
    obtain ⟨p2, c2, rfl⟩ := h.hx.kids.slice
    obtain ⟨pl, cl, rfl⟩ := h.hl.slice
    obtain ⟨n1, n2, hb1, hz1⟩ := two_new w (.cells #[.int .i8 p.k, .int .i64 p.n, .string p.s, .string p.t, .slice p1 p.l.length c1] 25) (.cells #[.int .i8 x.k, .int .i64 x.n, .string x.s, .string x.t, .slice p2 x.l.length c2] 29)
    obtain ⟨a0, a1, a2, a3, a4⟩ := node_heap n1
    obtain ⟨b0, b1, b2, b3, b4⟩ := node_heap n2
    simp only [Nat.zero_add] at a1 a2 a3 a4 b1 b2 b3 b4
    clear n1 n2
    have H := Lib.hid h
    have IH := Lib.hid ih
    clear h ih
    go_enter Tryz.func169, Tryz.ntmps169
    go_upto_region 1 with fail
    generalize (w.alloc (.cells #[.int .i8 p.k, .int .i64 p.n, .string p.s, .string p.t, .slice p1 p.l.length c1] 25)).alloc (.cells #[.int .i8 x.k, .int .i64 x.n, .string x.s, .string x.t, .slice p2 x.l.length c2] 29) = w1 at hb1 hz1 a0 a1 a2 a3 a4 b0 b1 b2 b3 b4 ⊢
    have HZ := Lib.hid hz1
    clear hz1
    have hn0 := heap_new (((((w1.alloc (.cells #[.int .i8 0] 22)).alloc (.cells #[.int .i8 1] 22)).alloc (.cells #[.int .i8 6] 22)).alloc (.cells #[.int .i8 7] 22)).alloc (.cells #[.int .i8 5] 22)) (.cells #[.nilFunc, .nilFunc, .nilFunc, .nilFunc, .nilFunc, .nilFunc, .nilFunc, .nilFunc, .nilFunc, .nilFunc, .nilFunc] 205)
    have hn : ((((((w1.alloc (.cells #[.int .i8 0] 22)).alloc (.cells #[.int .i8 1] 22)).alloc (.cells #[.int .i8 6] 22)).alloc (.cells #[.int .i8 7] 22)).alloc (.cells #[.int .i8 5] 22)).alloc (.cells #[.nilFunc, .nilFunc, .nilFunc, .nilFunc, .nilFunc, .nilFunc, .nilFunc, .nilFunc, .nilFunc, .nilFunc, .nilFunc] 205)).heap[w1.heap.size + 1 + 1 + 1 + 1 + 1]? = some (.cells nil11 205 (0, 0)) := by
      simp only [World.alloc, Array.size_push] at hn0 ⊢
      exact hn0
    clear hn0
    go_upto_region 2 with (first
      | (go_at_call 203; refine (mleaf_any _ _).mono ?_; rintro e w5 ⟨rfl, rfl⟩)
      | (go_at_call 204; refine (mwhole_any _ _).mono ?_; rintro e w5 ⟨rfl, rfl⟩)
      | (refine wpList_build rfl 205 _ rfl (by kernel_rfl) ?_)
      | (refine wpList_store_row rfl 205 _ _ rfl (w1.heap.size + 1 + 1 + 1 + 1 + 1) (rulesV w1.heap.size) (by kernel_rfl) (by kernel_rfl) 205 nil11 hn (size11 _) (by kernel_rfl) (by kernel_rfl) ?_))
    obtain ⟨k0, k1, k2, k3, k4, k5, hb6⟩ := six_new w1 (.cells #[.int .i8 0] 22) (.cells #[.int .i8 1] 22) (.cells #[.int .i8 6] 22) (.cells #[.int .i8 7] 22) (.cells #[.int .i8 5] 22) 205 #[.nilFunc, .nilFunc, .nilFunc, .nilFunc, .nilFunc, .nilFunc, .nilFunc, .nilFunc, .nilFunc, .nilFunc, .nilFunc] (rulesV w1.heap.size)
    generalize ((((((w1.alloc (.cells #[.int .i8 0] 22)).alloc (.cells #[.int .i8 1] 22)).alloc (.cells #[.int .i8 6] 22)).alloc (.cells #[.int .i8 7] 22)).alloc (.cells #[.int .i8 5] 22)).alloc (.cells #[.nilFunc, .nilFunc, .nilFunc, .nilFunc, .nilFunc, .nilFunc, .nilFunc, .nilFunc, .nilFunc, .nilFunc, .nilFunc] 205)).setRow (w1.heap.size + 1 + 1 + 1 + 1 + 1) (rulesV w1.heap.size) = w6 at k0 k1 k2 k3 k4 k5 hb6 ⊢
    clear hn
    generalize (Program.built _ _ _).getD #[] = ar
    have hB6 := hb1.trans (hb6.mono hb1.size)
    have hd6 : Below w6.heap.size w6 w6.drew := below_drewN (Below.refl _ _) 1
    have hBd := hB6.trans (hd6.mono hB6.size)
    have hG := H.out.under hBd
    have hkey : ∀ fv : Value, w6.cell? ⟨w1.heap.size + 1 + 1 + 1 + 1 + 1, p.k.toNat, none⟩ = some fv → ∀ W : World, Below w6.heap.size w6 W → W.cell? ⟨w.heap.size, 0, none⟩ = some (.int .i8 p.k) ∧ W.cell? ⟨w.heap.size, 1, none⟩ = some (.int .i64 p.n) ∧ W.cell? ⟨w.heap.size, 2, none⟩ = some (.string p.s) ∧ W.cell? ⟨w.heap.size, 3, none⟩ = some (.string p.t) ∧ W.cell? ⟨w.heap.size, 4, none⟩ = some (.slice p1 p.l.length c1) ∧
        W.cell? ⟨w.heap.size + 1, 0, none⟩ = some (.int .i8 x.k) ∧ W.cell? ⟨w.heap.size + 1, 1, none⟩ = some (.int .i64 x.n) ∧ W.cell? ⟨w.heap.size + 1, 2, none⟩ = some (.string x.s) ∧ W.cell? ⟨w.heap.size + 1, 3, none⟩ = some (.string x.t) ∧ W.cell? ⟨w.heap.size + 1, 4, none⟩ = some (.slice p2 x.l.length c2) ∧ W.cell? ⟨w1.heap.size + 1 + 1 + 1 + 1 + 1, p.k.toNat, none⟩ = some fv := by
      intro fv hfv W hb
      have h6 := hb6.trans (hb.mono hb6.size)
      have f : ∀ o u, w1.cell? ⟨w.heap.size, o, none⟩ = some u → W.cell? ⟨w.heap.size, o, none⟩ = some u := fun o u h => (h6.cell (p := ⟨w.heap.size, o, none⟩) (cell_block h)).trans h
      have g : ∀ o u, w1.cell? ⟨w.heap.size + 1, o, none⟩ = some u → W.cell? ⟨w.heap.size + 1, o, none⟩ = some u := fun o u h => (h6.cell (p := ⟨w.heap.size + 1, o, none⟩) (cell_block h)).trans h
      exact ⟨f _ _ a0, f _ _ a1, f _ _ a2, f _ _ a3, f _ _ a4, g _ _ b0, g _ _ b1, g _ _ b2, g _ _ b3, g _ _ b4, (hb.cell (p := ⟨w1.heap.size + 1 + 1 + 1 + 1 + 1, p.k.toNat, none⟩) (cell_block hfv)).trans hfv⟩
    have HG := Lib.hid hG
    clear a0 a1 a2 a3 a4 b0 b1 b2 b3 b4 hG
    rcases pat_kind H.out.pat with hk | hk | hk | hk | hk | hk
    · have cN := name_any HG.out hk
      rw [hk] at cN hkey
      have hmv := hkey _ (arr_cell k5)
      have hS0 := hmv w6 (Below.refl _ _)
      rw [hk]
      go_region_held3 (fun W => W.cell? ⟨w.heap.size, 0, none⟩ = some (.int .i8 5) ∧ W.cell? ⟨w.heap.size, 1, none⟩ = some (.int .i64 p.n) ∧ W.cell? ⟨w.heap.size, 2, none⟩ = some (.string p.s) ∧ W.cell? ⟨w.heap.size, 3, none⟩ = some (.string p.t) ∧ W.cell? ⟨w.heap.size, 4, none⟩ = some (.slice p1 p.l.length c1) ∧
        W.cell? ⟨w.heap.size + 1, 0, none⟩ = some (.int .i8 x.k) ∧ W.cell? ⟨w.heap.size + 1, 1, none⟩ = some (.int .i64 x.n) ∧ W.cell? ⟨w.heap.size + 1, 2, none⟩ = some (.string x.s) ∧ W.cell? ⟨w.heap.size + 1, 3, none⟩ = some (.string x.t) ∧ W.cell? ⟨w.heap.size + 1, 4, none⟩ = some (.slice p2 x.l.length c2) ∧ W.cell? ⟨w1.heap.size + 1 + 1 + 1 + 1 + 1, 5, none⟩ = some (.func (Fn.func 202) #[] #[])) (first | exact hS0 | exact hS1) (first
        | (go_at_call 202; refine cN.mono ?_; rintro e w7 ⟨v7, l7, ok7, rfl, hl7, hb7, hc7, hn7, hr7⟩; obtain ⟨p7, c7, rfl⟩ := hl7.slice; have hS1 := hmv _ (hd6.trans (hb7.mono hd6.size))))
      go_wp2
      go_ret2
      exact ⟨_, l7, ok7, rfl, hl7, hBd.trans (hb7.mono hBd.size), hc7, hn7, hr7⟩
    · have cN := mleaf1_any w6.drew p x p1 p2 p.l.length c1 x.l.length c2 (.slice pl l.length cl) (w1.heap.size) 0 ((hd6.cell (p := ⟨w1.heap.size, 0, none⟩) (cell_block (one_cell k0))).trans (one_cell k0))
      have hgo := go_leaf (l := l) H.out.pat H.out.chk (kk := 0) (by simp [hk])
      have HGO := Lib.hid hgo
      clear hgo
      generalize (x.k == 0 && (x.n == p.n && x.s.toList == p.s.toList)) = bb at cN HGO
      rw [hk] at cN hkey
      have hmv := hkey _ (arr_cell k5)
      have hS0 := hmv w6 (Below.refl _ _)
      rw [hk]
      go_region_held3 (fun W => W.cell? ⟨w.heap.size, 0, none⟩ = some (.int .i8 6) ∧ W.cell? ⟨w.heap.size, 1, none⟩ = some (.int .i64 p.n) ∧ W.cell? ⟨w.heap.size, 2, none⟩ = some (.string p.s) ∧ W.cell? ⟨w.heap.size, 3, none⟩ = some (.string p.t) ∧ W.cell? ⟨w.heap.size, 4, none⟩ = some (.slice p1 p.l.length c1) ∧
        W.cell? ⟨w.heap.size + 1, 0, none⟩ = some (.int .i8 x.k) ∧ W.cell? ⟨w.heap.size + 1, 1, none⟩ = some (.int .i64 x.n) ∧ W.cell? ⟨w.heap.size + 1, 2, none⟩ = some (.string x.s) ∧ W.cell? ⟨w.heap.size + 1, 3, none⟩ = some (.string x.t) ∧ W.cell? ⟨w.heap.size + 1, 4, none⟩ = some (.slice p2 x.l.length c2) ∧ W.cell? ⟨w1.heap.size + 1 + 1 + 1 + 1 + 1, 6, none⟩ = some (.func (Fn.func 217) #[] #[.pointer (some ⟨w1.heap.size, 0, none⟩)])) (first | exact hS0 | exact hS1) (first
        | (go_at_call 217; refine cN.mono ?_; rintro e w7 ⟨rfl, hb7⟩; have hS1 := hmv _ (hd6.trans (hb7.mono hd6.size))))
      go_wp2
      go_ret2
      exact ⟨_, l, bb, rfl, H.out.hl.under (hBd.trans (hb7.mono hBd.size)), hBd.trans (hb7.mono hBd.size), H.out.chl, by omega, HGO.out⟩
    · have cN := mleaf1_any w6.drew p x p1 p2 p.l.length c1 x.l.length c2 (.slice pl l.length cl) (w1.heap.size + 1) 1 ((hd6.cell (p := ⟨w1.heap.size + 1, 0, none⟩) (cell_block (one_cell k1))).trans (one_cell k1))
      have hgo := go_leaf (l := l) H.out.pat H.out.chk (kk := 1) (by simp [hk])
      have HGO := Lib.hid hgo
      clear hgo
      generalize (x.k == 1 && (x.n == p.n && x.s.toList == p.s.toList)) = bb at cN HGO
      rw [hk] at cN hkey
      have hmv := hkey _ (arr_cell k5)
      have hS0 := hmv w6 (Below.refl _ _)
      rw [hk]
      go_region_held3 (fun W => W.cell? ⟨w.heap.size, 0, none⟩ = some (.int .i8 7) ∧ W.cell? ⟨w.heap.size, 1, none⟩ = some (.int .i64 p.n) ∧ W.cell? ⟨w.heap.size, 2, none⟩ = some (.string p.s) ∧ W.cell? ⟨w.heap.size, 3, none⟩ = some (.string p.t) ∧ W.cell? ⟨w.heap.size, 4, none⟩ = some (.slice p1 p.l.length c1) ∧
        W.cell? ⟨w.heap.size + 1, 0, none⟩ = some (.int .i8 x.k) ∧ W.cell? ⟨w.heap.size + 1, 1, none⟩ = some (.int .i64 x.n) ∧ W.cell? ⟨w.heap.size + 1, 2, none⟩ = some (.string x.s) ∧ W.cell? ⟨w.heap.size + 1, 3, none⟩ = some (.string x.t) ∧ W.cell? ⟨w.heap.size + 1, 4, none⟩ = some (.slice p2 x.l.length c2) ∧ W.cell? ⟨w1.heap.size + 1 + 1 + 1 + 1 + 1, 7, none⟩ = some (.func (Fn.func 217) #[] #[.pointer (some ⟨w1.heap.size + 1, 0, none⟩)])) (first | exact hS0 | exact hS1) (first
        | (go_at_call 217; refine cN.mono ?_; rintro e w7 ⟨rfl, hb7⟩; have hS1 := hmv _ (hd6.trans (hb7.mono hd6.size))))
      go_wp2
      go_ret2
      exact ⟨_, l, bb, rfl, H.out.hl.under (hBd.trans (hb7.mono hBd.size)), hBd.trans (hb7.mono hBd.size), H.out.chl, by omega, HGO.out⟩
    · have cN := mleaf1_any w6.drew p x p1 p2 p.l.length c1 x.l.length c2 (.slice pl l.length cl) (w1.heap.size + 1 + 1) 6 ((hd6.cell (p := ⟨w1.heap.size + 1 + 1, 0, none⟩) (cell_block (one_cell k2))).trans (one_cell k2))
      have hgo := go_leaf (l := l) H.out.pat H.out.chk (kk := 6) (by simp [hk])
      have HGO := Lib.hid hgo
      clear hgo
      generalize (x.k == 6 && (x.n == p.n && x.s.toList == p.s.toList)) = bb at cN HGO
      rw [hk] at cN hkey
      have hmv := hkey _ (arr_cell k5)
      have hS0 := hmv w6 (Below.refl _ _)
      rw [hk]
      go_region_held3 (fun W => W.cell? ⟨w.heap.size, 0, none⟩ = some (.int .i8 8) ∧ W.cell? ⟨w.heap.size, 1, none⟩ = some (.int .i64 p.n) ∧ W.cell? ⟨w.heap.size, 2, none⟩ = some (.string p.s) ∧ W.cell? ⟨w.heap.size, 3, none⟩ = some (.string p.t) ∧ W.cell? ⟨w.heap.size, 4, none⟩ = some (.slice p1 p.l.length c1) ∧
        W.cell? ⟨w.heap.size + 1, 0, none⟩ = some (.int .i8 x.k) ∧ W.cell? ⟨w.heap.size + 1, 1, none⟩ = some (.int .i64 x.n) ∧ W.cell? ⟨w.heap.size + 1, 2, none⟩ = some (.string x.s) ∧ W.cell? ⟨w.heap.size + 1, 3, none⟩ = some (.string x.t) ∧ W.cell? ⟨w.heap.size + 1, 4, none⟩ = some (.slice p2 x.l.length c2) ∧ W.cell? ⟨w1.heap.size + 1 + 1 + 1 + 1 + 1, 8, none⟩ = some (.func (Fn.func 217) #[] #[.pointer (some ⟨w1.heap.size + 1 + 1, 0, none⟩)])) (first | exact hS0 | exact hS1) (first
        | (go_at_call 217; refine cN.mono ?_; rintro e w7 ⟨rfl, hb7⟩; have hS1 := hmv _ (hd6.trans (hb7.mono hd6.size))))
      go_wp2
      go_ret2
      exact ⟨_, l, bb, rfl, H.out.hl.under (hBd.trans (hb7.mono hBd.size)), hBd.trans (hb7.mono hBd.size), H.out.chl, by omega, HGO.out⟩
    · have cN := mwhole1_any IH.out HG.out (pat_kids H.out.pat (by simp [hk])) (bk := w1.heap.size + 1 + 1 + 1) (kk := 7) ((hd6.cell (p := ⟨w1.heap.size + 1 + 1 + 1, 0, none⟩) (cell_block (one_cell k3))).trans (one_cell k3))
      have hgo := go_whole (l := l) H.out.pat H.out.chk (kk := 7) (by simp [hk])
      have HGO := Lib.hid hgo
      clear hgo
      rw [hk] at cN hkey
      have hmv := hkey _ (arr_cell k5)
      have hS0 := hmv w6 (Below.refl _ _)
      rw [hk]
      go_region_held3 (fun W => W.cell? ⟨w.heap.size, 0, none⟩ = some (.int .i8 9) ∧ W.cell? ⟨w.heap.size, 1, none⟩ = some (.int .i64 p.n) ∧ W.cell? ⟨w.heap.size, 2, none⟩ = some (.string p.s) ∧ W.cell? ⟨w.heap.size, 3, none⟩ = some (.string p.t) ∧ W.cell? ⟨w.heap.size, 4, none⟩ = some (.slice p1 p.l.length c1) ∧
        W.cell? ⟨w.heap.size + 1, 0, none⟩ = some (.int .i8 x.k) ∧ W.cell? ⟨w.heap.size + 1, 1, none⟩ = some (.int .i64 x.n) ∧ W.cell? ⟨w.heap.size + 1, 2, none⟩ = some (.string x.s) ∧ W.cell? ⟨w.heap.size + 1, 3, none⟩ = some (.string x.t) ∧ W.cell? ⟨w.heap.size + 1, 4, none⟩ = some (.slice p2 x.l.length c2) ∧ W.cell? ⟨w1.heap.size + 1 + 1 + 1 + 1 + 1, 9, none⟩ = some (.func (Fn.func 218) #[] #[.pointer (some ⟨w1.heap.size + 1 + 1 + 1, 0, none⟩)])) (first | exact hS0 | exact hS1) (first
        | (go_at_call 218; refine cN.mono ?_; rintro e w7 ⟨v7, l7, ok7, rfl, hl7, hb7, hc7, hn7, hr7⟩; obtain ⟨p7, c7, rfl⟩ := hl7.slice; have hS1 := hmv _ (hd6.trans (hb7.mono hd6.size))))
      go_wp2
      go_ret2
      exact ⟨_, l7, ok7, rfl, hl7, hBd.trans (hb7.mono hBd.size), hc7, hn7, HGO.out.trans hr7⟩
    · have cN := mwhole1_any IH.out HG.out (pat_kids H.out.pat (by simp [hk])) (bk := w1.heap.size + 1 + 1 + 1 + 1) (kk := 5) ((hd6.cell (p := ⟨w1.heap.size + 1 + 1 + 1 + 1, 0, none⟩) (cell_block (one_cell k4))).trans (one_cell k4))
      have hgo := go_whole (l := l) H.out.pat H.out.chk (kk := 5) (by simp [hk])
      have HGO := Lib.hid hgo
      clear hgo
      rw [hk] at cN hkey
      have hmv := hkey _ (arr_cell k5)
      have hS0 := hmv w6 (Below.refl _ _)
      rw [hk]
      go_region_held3 (fun W => W.cell? ⟨w.heap.size, 0, none⟩ = some (.int .i8 10) ∧ W.cell? ⟨w.heap.size, 1, none⟩ = some (.int .i64 p.n) ∧ W.cell? ⟨w.heap.size, 2, none⟩ = some (.string p.s) ∧ W.cell? ⟨w.heap.size, 3, none⟩ = some (.string p.t) ∧ W.cell? ⟨w.heap.size, 4, none⟩ = some (.slice p1 p.l.length c1) ∧
        W.cell? ⟨w.heap.size + 1, 0, none⟩ = some (.int .i8 x.k) ∧ W.cell? ⟨w.heap.size + 1, 1, none⟩ = some (.int .i64 x.n) ∧ W.cell? ⟨w.heap.size + 1, 2, none⟩ = some (.string x.s) ∧ W.cell? ⟨w.heap.size + 1, 3, none⟩ = some (.string x.t) ∧ W.cell? ⟨w.heap.size + 1, 4, none⟩ = some (.slice p2 x.l.length c2) ∧ W.cell? ⟨w1.heap.size + 1 + 1 + 1 + 1 + 1, 10, none⟩ = some (.func (Fn.func 218) #[] #[.pointer (some ⟨w1.heap.size + 1 + 1 + 1 + 1, 0, none⟩)])) (first | exact hS0 | exact hS1) (first
        | (go_at_call 218; refine cN.mono ?_; rintro e w7 ⟨v7, l7, ok7, rfl, hl7, hb7, hc7, hn7, hr7⟩; obtain ⟨p7, c7, rfl⟩ := hl7.slice; have hS1 := hmv _ (hd6.trans (hb7.mono hd6.size))))
      go_wp2
      go_ret2
      exact ⟨_, l7, ok7, rfl, hl7, hBd.trans (hb7.mono hBd.size), hc7, hn7, HGO.out.trans hr7⟩
end Go.Proofs.YtlhobpknflobgaaGreatDoor
