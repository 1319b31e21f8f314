/-
  The argument []Act as it lies; the web's reading methods at a web told by its plain state. Conditions: as said.
-/
import Derived.Test.YtjkdmdddgiomjaaCount
import Derived.Deep.DeepCutAuto
import Derived.Deep.LoopGhost
namespace Go.Proofs.Ytjkdmdddgiomjaa
open Go.RowKit Go.Maps

def ActsAt (w : World) (v : Value) (l : List (Int × Int × Int)) : Prop := ∃ p c, v = .slice p l.length c ∧ l.length ≤ c ∧ (∀ x ∈ l, I64 x.2.1 ∧ I64 x.2.2) ∧ ∀ k (hk : k < l.length), ∃ g o, p = some ⟨g, o, none⟩ ∧ g < w.heap.size ∧
  w.cell? ⟨g, o + k * 3, none⟩ = some (.int .i64 l[k].1) ∧ w.cell? ⟨g, o + k * 3 + 1, none⟩ = some (.int .i64 l[k].2.1) ∧ w.cell? ⟨g, o + k * 3 + 2, none⟩ = some (.int .i64 l[k].2.2)

/-- One act, in a later world. -/
theorem act_cells {w wr : World} {g o k : Nat} {x : Int × Int × Int} (hb : Below w.heap.size w wr) (hg : g < w.heap.size)
    (h : w.cell? ⟨g, o + k * 3, none⟩ = some (.int .i64 x.1) ∧ w.cell? ⟨g, o + k * 3 + 1, none⟩ = some (.int .i64 x.2.1) ∧ w.cell? ⟨g, o + k * 3 + 2, none⟩ = some (.int .i64 x.2.2)) :
    wr.cell? ⟨g, o + k * 3, none⟩ = some (.int .i64 x.1) ∧ wr.cell? ⟨g, o + k * 3 + 1, none⟩ = some (.int .i64 x.2.1) ∧ wr.cell? ⟨g, o + k * 3 + 2, none⟩ = some (.int .i64 x.2.2) :=
  ⟨(hb.cell (p := ⟨g, o + k * 3, none⟩) hg).trans h.1, (hb.cell (p := ⟨g, o + k * 3 + 1, none⟩) hg).trans h.2.1, (hb.cell (p := ⟨g, o + k * 3 + 2, none⟩) hg).trans h.2.2⟩

theorem webL_new {w' : World} {B bl bp bs : Nat} (h : Web w' B 0 [] (fun _ _ => false) [] 0 bl bp bs) : WebL w' B 0 (wb B bl bp bs []) p0 := ⟨[], bl, bp, bs, h, fun _ => rfl, rfl⟩

section
variable {w : World} {B N : Nat} {L : List Nat} {p : PS}
theorem WebL.linked (h : WebL w B N L p) {a b : Int} (ha : I64 a) (hb : I64 b) : Calls Try.prog 10 #[.pointer (some ⟨B, 0, none⟩), .int .i64 a, .int .i64 b] w fun e w' => e = .returned (.bool (p.S (min a b) (max a b))) ∧ w = w' := by
  obtain ⟨il, bl, bp, bs, hW, had, rfl⟩ := h
  exact linked_any hW ha hb
theorem WebL.lastC (h : WebL w B N L p) : Calls Try.prog 28 #[.pointer (some ⟨B, 0, none⟩)] w fun e w' => e = .returned (.int .i64 p.last) ∧ w = w' := by
  obtain ⟨il, bl, bp, bs, hW, had, rfl⟩ := h
  exact last_any hW
theorem WebL.links (h : WebL w B N L p) {a : Int} (ha : I64 a) (hN : N ≤ BN) : Calls Try.prog 11 #[.pointer (some ⟨B, 0, none⟩), .int .i64 a] w fun e w' => ∃ v, e = .returned v ∧ NewInts w w' v (p.f a) ∧ Below w.heap.size w w' := by
  obtain ⟨il, bl, bp, bs, hW, had, rfl⟩ := h
  rw [← had a]
  exact links_any hW ha hN
theorem WebL.watches (h : WebL w B N L p) (hN : N ≤ BN) (a : Int) : Calls Try.prog 12 #[.pointer (some ⟨B, 0, none⟩), .int .i64 a] w fun e w' => ∃ v, e = .returned v ∧ NewSeen w.heap.size w' v (p.M.filter fun m => m.2.1 == a) ∧ Below w.heap.size w w' := by
  obtain ⟨il, bl, bp, bs, hW, had, rfl⟩ := h
  exact watches_any hW hN a
theorem WebL.watchers (h : WebL w B N L p) (hN : N ≤ BN) (a : Int) : Calls Try.prog 26 #[.pointer (some ⟨B, 0, none⟩), .int .i64 a] w fun e w' => ∃ v, e = .returned v ∧ NewSeen w.heap.size w' v (p.M.filter fun m => m.2.2 == a) ∧ Below w.heap.size w w' := by
  obtain ⟨il, bl, bp, bs, hW, had, rfl⟩ := h
  exact watchers_any hW hN a
theorem WebL.wf (h : WebL w B N L p) {a n : Int} (hn : n ∈ p.f a) : I64 n := by
  obtain ⟨il, bl, bp, bs, hW, had, rfl⟩ := h
  rw [← had a] at hn
  exact adj_wf hW hn
theorem WebL.len (h : WebL w B N L p) (q : Int × Int × Int → Bool) : (p.M.filter q).length ≤ N := by
  obtain ⟨il, bl, bp, bs, hW, had, rfl⟩ := h
  have h1 := hW.seen.length_le
  rw [List.length_map] at h1
  exact Nat.le_trans (List.length_filter_le _ _) h1
theorem WebL.below {w' : World} (h : WebL w B N L p) (hb : Below w.heap.size w w') : WebL w' B N L p := h.keep (T := fun _ => False) (Turn.of_below hb) fun _ _ h => h
end
theorem ints_nil {w w' : World} {v : Value} (h : NewInts w w' v []) : v = .slice none 0 0 := h.2.2 rfl
theorem seen_none {base : Nat} {w' : World} {v : Value} (h : NewSeen base w' v []) : v = .slice none 0 0 := h.2.2 rfl
theorem alloc_webL {w : World} {B N : Nat} {L : List Nat} {p : PS} (h : WebL w B N L p) (o : Obj) : WebL (w.alloc o) B N L p := h.below ((Below.refl _ w).alloc (Nat.le_refl _) o)

/-- The act's own box. -/
theorem act_box {wr : World} {B N : Nat} {L : List Nat} {p : PS} (h : WebL wr B N L p) (d x y : Int) :
    WebL (wr.alloc (.cells #[.int .i64 d, .int .i64 x, .int .i64 y] 27)) B N L p ∧ Below wr.heap.size wr (wr.alloc (.cells #[.int .i64 d, .int .i64 x, .int .i64 y] 27)) ∧ (wr.alloc (.cells #[.int .i64 d, .int .i64 x, .int .i64 y] 27)).heap.size = wr.heap.size + 1 ∧
      (wr.alloc (.cells #[.int .i64 d, .int .i64 x, .int .i64 y] 27)).cell? ⟨wr.heap.size, 0, none⟩ = some (.int .i64 d) ∧ (wr.alloc (.cells #[.int .i64 d, .int .i64 x, .int .i64 y] 27)).cell? ⟨wr.heap.size, 1, none⟩ = some (.int .i64 x) ∧
      (wr.alloc (.cells #[.int .i64 d, .int .i64 x, .int .i64 y] 27)).cell? ⟨wr.heap.size, 2, none⟩ = some (.int .i64 y) :=
  ⟨alloc_webL h _, (Below.refl _ _).alloc (Nat.le_refl _) _, by simp, by rw [World.cell?_alloc_at _ _ _ _ (by simp)]; rfl, by rw [World.cell?_alloc_at _ _ _ _ (by simp)]; rfl, by rw [World.cell?_alloc_at _ _ _ _ (by simp)]; rfl⟩

def askedV (r : AR) (lv sv : Value) : Array Value := #[.int .i64 r.n, .bool r.ok, lv, sv, .int .i64 r.e]
/-- What lies behind ask, with its answer's box. -/
theorem asked_box {w wr wA w2 : World} {B N : Nat} {L L2 : List Nat} {d x y : Int} {r : AR} {p : PS} {lv sv : Value} (hbr : Below w.heap.size w wr) (hbA : Below wr.heap.size wr wA) (hszA : wA.heap.size = wr.heap.size + 1) (hnL : ¬ wr.heap.size ∈ L) (hLr : ∀ j ∈ L, w.heap.size ≤ j)
    (k0 : wA.cell? ⟨wr.heap.size, 0, none⟩ = some (.int .i64 d)) (k1 : wA.cell? ⟨wr.heap.size, 1, none⟩ = some (.int .i64 x)) (k2 : wA.cell? ⟨wr.heap.size, 2, none⟩ = some (.int .i64 y))
    (hW2 : WebL w2 B N L2 p) (hL2 : ∀ j ∈ L2, j ∈ L ∨ wA.heap.size ≤ j) (hT2 : Turn (· ∈ L) wA w2) :
    WebL (w2.alloc (.cells (askedV r lv sv) 32)) B N L2 p ∧ (∀ j ∈ L2, w.heap.size ≤ j) ∧ Below w.heap.size w (w2.alloc (.cells (askedV r lv sv) 32)) ∧
      ((w2.alloc (.cells (askedV r lv sv) 32)).cell? ⟨wr.heap.size, 0, none⟩ = some (.int .i64 d) ∧ (w2.alloc (.cells (askedV r lv sv) 32)).cell? ⟨wr.heap.size, 1, none⟩ = some (.int .i64 x) ∧ (w2.alloc (.cells (askedV r lv sv) 32)).cell? ⟨wr.heap.size, 2, none⟩ = some (.int .i64 y)) ∧
      (w2.alloc (.cells (askedV r lv sv) 32)).heap[w2.heap.size]? = some (.cells (askedV r lv sv) 32) ∧ wr.heap.size < (w2.alloc (.cells (askedV r lv sv) 32)).heap.size := by
  have hs := hT2.size
  have hsz := hbr.size
  have hA : Below wr.heap.size w2 (w2.alloc (.cells (askedV r lv sv) 32)) := (Below.refl _ _).alloc (by omega) _
  have hA' : Below w2.heap.size w2 (w2.alloc (.cells (askedV r lv sv) 32)) := (Below.refl _ _).alloc (Nat.le_refl _) _
  have hbox : ∀ i, (w2.alloc (.cells (askedV r lv sv) 32)).cell? ⟨wr.heap.size, i, none⟩ = wA.cell? ⟨wr.heap.size, i, none⟩ := fun i =>
    (hA'.cell (p := ⟨wr.heap.size, i, none⟩) (by show wr.heap.size < w2.heap.size; omega)).trans (by unfold World.cell?; rw [hT2.block _ (by omega) hnL])
  refine ⟨alloc_webL hW2 _, fun j hj => ?_, ?_, ⟨(hbox 0).trans k0, (hbox 1).trans k1, (hbox 2).trans k2⟩, (MapKept.heap_alloc w2 _).1, by simp; omega⟩
  · rcases hL2 j hj with h | h
    · exact hLr j h
    · omega
  · refine (hbr.trans (hbA.mono hsz)).trans ?_
    exact (hT2.below (B := w.heap.size) (by omega) fun j hj hm => by have := hLr j hm; omega).trans (hA'.mono (by omega))
theorem cell_lt {w : World} {g i : Nat} {v : Value} (h : w.cell? ⟨g, i, none⟩ = some v) : g < w.heap.size := by
  unfold World.cell? at h
  cases hg : w.heap[g]? with
  | none => simp [hg] at h
  | some o => exact (Array.getElem?_eq_some_iff.1 hg).1
theorem seen_box {w6 wr : World} (h : Below w6.heap.size w6 wr) (m1 m2 m3 : Int) :
    (wr.alloc (.cells #[.int .i64 m1, .int .i64 m2, .int .i64 m3] 53)).cell? ⟨wr.heap.size, 0, none⟩ = some (.int .i64 m1) ∧ (wr.alloc (.cells #[.int .i64 m1, .int .i64 m2, .int .i64 m3] 53)).cell? ⟨wr.heap.size, 1, none⟩ = some (.int .i64 m2) ∧
      Below w6.heap.size w6 (wr.alloc (.cells #[.int .i64 m1, .int .i64 m2, .int .i64 m3] 53)) :=
  ⟨by rw [World.cell?_alloc_at _ _ _ _ (by simp)]; rfl, by rw [World.cell?_alloc_at _ _ _ _ (by simp)]; rfl, h.alloc h.size _⟩
end Go.Proofs.Ytjkdmdddgiomjaa
