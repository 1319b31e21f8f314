/-
  The Web's method set, Link, Cut. Conditions: the Web lies as 'Web' says; its maps are small.
-/
import Derived.Test.YtjkdmdddgiomjaaOps
namespace Go.Proofs.Ytjkdmdddgiomjaa
open Go.RowKit Go.Maps

def insK (y : Int) (l : List Int) : List Int := (ins y () (l.map fun x => (x, ()))).map (·.1)
def delK (y : Int) (l : List Int) : List Int := l.filter (· != y)
theorem ins_true (y : Int) (l : List Int) : ins y (Value.bool true) (l.map fun x => (x, Value.bool true)) = (insK y l).map fun x => (x, Value.bool true) := by
  have h := ins_map (fun _ : Unit => Value.bool true) y () (l.map fun x => (x, ()))
  simp only [List.map_map, Function.comp_def] at h
  rw [← h, insK, List.map_map]
  rfl
theorem del_true (y : Int) (l : List Int) : del y (l.map fun x => (x, Value.bool true)) = (delK y l).map fun x => (x, Value.bool true) := by
  unfold del delK
  rw [List.filter_map]
  rfl
def upd (on : Bool) (y : Int) (l : List Int) : List Int := if on then insK y l else delK y l

section
variable {w w' : World} {B N : Nat} {il : List (Int × Nat × List Int)} {S : Int → Int → Bool} {M : List (Int × Int × Int)} {last : Int} {bl bp bs : Nat}

set_option maxHeartbeats 400000 in
theorem may_any (w : World) (a b : Int) : Calls Try.prog 39 #[.int .i64 a, .int .i64 b] w fun e w' => e = .returned (.bool (decide (1 ≤ a) && decide (1 ≤ b) && (a != b))) ∧ w = w' := by
  by_cases h1 : 1 ≤ a
  · by_cases h2 : 1 ≤ b
    · by_cases h3 : a = b
      · subst h3
        go_enter Try.func39, Try.ntmps39
        go_wp2
        go_ret
        simp
      · go_enter Try.func39, Try.ntmps39
        go_wp2
        go_ret
        simp [h1, h2]
        try omega
    · have h2' : b < 1 := by omega
      go_enter Try.func39, Try.ntmps39
      go_wp2
      go_ret
      simp; omega
  · have h1' : a < 1 := by omega
    go_enter Try.func39, Try.ntmps39
    go_wp2
    go_ret
    simp; omega

theorem adj_ins (il : List (Int × Nat × List Int)) (x z : Int) (q : Nat × List Int) : adj (ins x q il) z = if z = x then q.2 else adj il z := by
  unfold adj
  by_cases h : z = x
  · subst h; rw [look_ins_same, if_pos rfl]
  · rw [look_ins_other h, if_neg h]

/-- What one half of 'set' does to the neighbours. -/
structure Half (w : World) (il il' : List (Int × Nat × List Int)) (x y : Int) (on : Bool) : Prop where
  adjs : ∀ z, adj il' z = if z = x then upd on y (adj il x) else adj il z
  fresh : ∀ k ∈ il'.map (·.2.1), k ∈ il.map (·.2.1) ∨ w.heap.size ≤ k

theorem blocks_inj {il : List (Int × Nat × List Int)} (h : (il.map (·.2.1)).Nodup) {p q : Int × Nat × List Int} (hp : p ∈ il) (hq : q ∈ il) (e : p.2.1 = q.2.1) : p = q := by
  induction il with
  | nil => simp at hp
  | cons r l ih =>
    simp only [List.map_cons, List.nodup_cons, List.mem_map, not_exists, not_and] at h
    rcases List.mem_cons.1 hp with h1 | h1
    · rcases List.mem_cons.1 hq with h2 | h2
      · rw [h1, h2]
      · exact absurd (by rw [← e, h1]) (h.1 q h2)
    · rcases List.mem_cons.1 hq with h2 | h2
      · exact absurd (by rw [e, h2]) (h.1 p h1)
      · exact ih h.2 h1 h2
theorem nodup_ins {x : Int} {q : Nat × List Int} : ∀ {il : List (Int × Nat × List Int)}, Srt il → (il.map (·.2.1)).Nodup → (∀ p ∈ il, p.1 ≠ x → p.2.1 ≠ q.1) → ((ins x q il).map (·.2.1)).Nodup
  | [], _, _, _ => by simp [ins]
  | (y, u) :: r, hs, hn, hq => by
    have hr : Srt r := (List.pairwise_cons.1 hs).2
    have hy := (List.pairwise_cons.1 hs).1
    simp only [List.map_cons, List.nodup_cons] at hn
    unfold ins
    split
    · rename_i h1
      simp only [List.map_cons, List.nodup_cons]
      refine ⟨fun hm => ?_, hn⟩
      have hm' : q.1 ∈ ((y, u) :: r).map (·.2.1) := hm
      obtain ⟨p, hp, he⟩ := List.mem_map.1 hm'
      refine hq p hp ?_ he
      rcases List.mem_cons.1 hp with rfl | hp
      · simp only; omega
      · have := hy p hp; simp only at this; omega
    · split
      · rename_i h1 h2
        simp only [List.map_cons, List.nodup_cons]
        refine ⟨fun hm => ?_, hn.2⟩
        obtain ⟨p, hp, he⟩ := List.mem_map.1 hm
        refine hq p (List.mem_cons_of_mem _ hp) ?_ he
        have := hy p hp; simp only at this; omega
      · rename_i h1 h2
        simp only [List.map_cons, List.nodup_cons]
        refine ⟨fun hm => ?_, nodup_ins hr hn.2 fun p hp => hq p (List.mem_cons_of_mem _ hp)⟩
        obtain ⟨p, hp, he⟩ := List.mem_map.1 hm
        rcases mem_ins_ne hr hp with rfl | ⟨hp, _⟩
        · exact hq (y, u) (by simp) (by simp only; omega) he.symm
        · exact hn.1 (List.mem_map.2 ⟨p, hp, he⟩)

theorem nodup4 {a b c d : Nat} {l l' : List Nat} (h : (a :: b :: c :: d :: l).Nodup) (hl : l'.Nodup) (hx : ∀ k ∈ l', k ∈ l ∨ (k ≠ a ∧ k ≠ b ∧ k ≠ c ∧ k ≠ d)) : (a :: b :: c :: d :: l').Nodup := by
  simp only [List.nodup_cons, List.mem_cons, not_or] at h ⊢
  obtain ⟨⟨h1, h2, h3, h4⟩, ⟨h5, h6, h7⟩, ⟨h8, h9⟩, h10, _⟩ := h
  refine ⟨⟨h1, h2, h3, fun hm => ?_⟩, ⟨h5, h6, fun hm => ?_⟩, ⟨h8, fun hm => ?_⟩, fun hm => ?_, hl⟩
  · exact (hx _ hm).elim h4 fun e => e.1 rfl
  · exact (hx _ hm).elim h7 fun e => e.2.1 rfl
  · exact (hx _ hm).elim h9 fun e => e.2.2.1 rfl
  · exact (hx _ hm).elim h10 fun e => e.2.2.2 rfl

/-- The inner map of x, whose block is there, is written. -/
theorem Web.half (h : Web w B N il S M last bl bp bs) {x y : Int} {on : Bool} {q : Nat × List Int} (hq : look x il = some q) (ht : w.mapTurned w' q.1) {N' : Nat} (hN : N ≤ N')
    (hI : IMap 3 w' q.1 N' ((upd on y q.2).map fun x => (x, .bool true))) : Web w' B N' (ins x (q.1, upd on y q.2) il) S M last bl bp bs ∧ Half w il (ins x (q.1, upd on y q.2) il) x y on := by
  have hm := look_mem hq
  have hs : Srt il := srt_of_map (f := fun q : Nat × List Int => Value.map (some q.1)) h.outer.srt
  have hT := Turn.of_map ht
  have hnd := h.nodup
  have hnil : (il.map (·.2.1)).Nodup := by
    simp only [List.nodup_cons] at hnd
    exact hnd.2.2.2.2
  have hne : ∀ k ∈ [B, bl, bp, bs], k ≠ q.1 := by
    intro k hk e
    subst e
    have hmem : q.1 ∈ il.map (·.2.1) := List.mem_map.2 ⟨_, hm, rfl⟩
    simp only [List.nodup_cons, List.mem_cons, not_or] at hnd
    simp only [List.mem_cons, List.not_mem_nil, or_false] at hk
    rcases hk with hk | hk | hk | hk <;> rw [hk] at hmem
    · exact hnd.1.2.2.2 hmem
    · exact hnd.2.1.2.2 hmem
    · exact hnd.2.2.1.2 hmem
    · exact hnd.2.2.2.1 hmem
  have houter : (ins x (q.1, upd on y q.2) il).map (fun p => (p.1, Value.map (some p.2.1))) = il.map (fun p => (p.1, Value.map (some p.2.1))) := by
    have e := ins_map (fun q : Nat × List Int => Value.map (some q.1)) x (q.1, upd on y q.2) il
    rw [e]
    refine ins_same h.outer.srt ?_
    rw [look_il, hq]; rfl
  have hnd' : ((ins x (q.1, upd on y q.2) il).map (·.2.1)).Nodup := nodup_ins hs hnil fun p hp hne e => hne (congrArg (·.1) (blocks_inj hnil hp hm e))
  have hsub : ∀ k ∈ (ins x (q.1, upd on y q.2) il).map (·.2.1), k ∈ il.map (·.2.1) := by
    intro k hk
    obtain ⟨p, hp, rfl⟩ := List.mem_map.1 hk
    rcases mem_ins hp with rfl | hp
    · exact List.mem_map.2 ⟨_, hm, rfl⟩
    · exact List.mem_map.2 ⟨p, hp, rfl⟩
  refine ⟨⟨?_, ?_, fun p hp => ?_, ?_, ?_, ?_⟩, ⟨fun z => ?_, fun k hk => .inl (hsub k hk)⟩⟩
  · exact (hT.block _ (Array.getElem?_eq_some_iff.1 h.head).1 (hne _ (by simp))).trans h.head
  · rw [houter]
    exact (h.outer.same (hT.block _ h.outer.lt (hne _ (by simp)))).mono hN
  · rcases mem_ins_ne hs hp with rfl | ⟨hp, hx⟩
    · exact hI
    · exact ((h.inner p hp).same (hT.block _ (h.inner p hp).lt fun e => hx (congrArg (·.1) (blocks_inj hnil hp hm e)))).mono hN
  · exact (h.pairs.same (hT.block _ h.pairs.lt (hne _ (by simp)))).mono hN
  · exact (h.seen.same (hT.block _ h.seen.lt (hne _ (by simp)))).mono hN
  · exact nodup4 h.nodup hnd' fun k hk => .inl (hsub k hk)
  · rw [adj_ins]
    have : adj il x = q.2 := by unfold adj; rw [hq]
    rw [this]

/-- A new inner map is put at x. -/
theorem Web.fresh (h : Web w B N il S M last bl bp bs) {x : Int} {nb : Nat} (hnb : w.heap.size ≤ nb) {T : Nat → Prop} (ht : Turn T w w') (hT : ∀ k, T k → k = bl) {N' : Nat} (hN : N ≤ N')
    (hI : IMap 3 w' nb 0 []) (ho : IMap 3 w' bl N' (ins x (.map (some nb)) (il.map fun p => (p.1, .map (some p.2.1))))) : Web w' B N' (ins x (nb, []) il) S M last bl bp bs := by
  have hs : Srt il := srt_of_map (f := fun q : Nat × List Int => Value.map (some q.1)) h.outer.srt
  have hnd := h.nodup
  have hnil : (il.map (·.2.1)).Nodup := by
    simp only [List.nodup_cons] at hnd
    exact hnd.2.2.2.2
  have hne : ∀ k ∈ B :: bp :: bs :: il.map (·.2.1), ¬ T k := by
    intro k hk e
    have := hT k e
    subst this
    simp only [List.nodup_cons, List.mem_cons, not_or] at hnd
    simp only [List.mem_cons] at hk
    rcases hk with rfl | rfl | rfl | hk
    · exact hnd.1.1 rfl
    · exact hnd.2.1.1 rfl
    · exact hnd.2.1.2.1 rfl
    · exact hnd.2.1.2.2 hk
  have hlt : ∀ k ∈ wb B bl bp bs il, k ≠ nb := fun k hk e => by have := h.lt hk; omega
  refine ⟨?_, ?_, fun p hp => ?_, ?_, ?_, ?_⟩
  · exact (ht.block _ (Array.getElem?_eq_some_iff.1 h.head).1 (hne _ (by simp))).trans h.head
  · rw [ins_map (fun q : Nat × List Int => Value.map (some q.1)) x (nb, []) il]
    exact ho
  · rcases mem_ins_ne hs hp with rfl | ⟨hp, hx⟩
    · exact hI.mono (Nat.zero_le _)
    · exact ((h.inner p hp).same (ht.block _ (h.inner p hp).lt (hne _ (by simp only [List.mem_cons, List.mem_map]; exact .inr (.inr (.inr ⟨p, hp, rfl⟩)))))).mono hN
  · exact (h.pairs.same (ht.block _ h.pairs.lt (hne _ (by simp)))).mono hN
  · exact (h.seen.same (ht.block _ h.seen.lt (hne _ (by simp)))).mono hN
  · refine nodup4 h.nodup (nodup_ins hs hnil fun p hp _ => hlt _ (by simp only [wb, List.mem_cons, List.mem_map]; exact .inr (.inr (.inr (.inr ⟨p, hp, rfl⟩))))) fun k hk => ?_
    obtain ⟨p, hp, rfl⟩ := List.mem_map.1 hk
    rcases mem_ins hp with rfl | hp
    · exact .inr ⟨fun e => hlt B (by simp [wb]) e.symm, fun e => hlt bl (by simp [wb]) e.symm, fun e => hlt bp (by simp [wb]) e.symm, fun e => hlt bs (by simp [wb]) e.symm⟩
    · exact .inl (List.mem_map.2 ⟨p, hp, rfl⟩)

def adj1 (on : Bool) (a b : Int) (f : Int → List Int) (z : Int) : List Int := if z = a then upd on b (f a) else f z
def adj2 (on : Bool) (a b : Int) (f : Int → List Int) : Int → List Int := adj1 on b a (adj1 on a b f)
def adjK (on : Bool) (a b : Int) (f : Int → List Int) : Nat → Int → List Int
  | 0 => f
  | 1 => adj1 on a b f
  | _ => adj2 on a b f

structure SetAt (w0 : World) (B N : Nat) (il : List (Int × Nat × List Int)) (S : Int → Int → Bool) (M : List (Int × Int × Int)) (last : Int) (bl bp bs : Nat) (f : Int → List Int) (wr : World) (il' : List (Int × Nat × List Int)) : Prop where
  web : Web wr B N il' S M last bl bp bs
  adjs : ∀ z, adj il' z = f z
  fresh : ∀ j ∈ il'.map (·.2.1), j ∈ il.map (·.2.1) ∨ w0.heap.size ≤ j
  turn : Turn (· ∈ wb B bl bp bs il) w0 wr

def SetRel (w0 : World) (B N : Nat) (il : List (Int × Nat × List Int)) (S : Int → Int → Bool) (M : List (Int × Int × Int)) (last : Int) (bl bp bs : Nat) (a b : Int) (on : Bool) (i : Value) (wr : World) : Prop :=
  (i = .int .i64 0 ∧ ∃ il', SetAt w0 B N il S M last bl bp bs (adjK on a b (adj il) 0) wr il') ∨
  (i = .int .i64 1 ∧ ∃ il', SetAt w0 B (N + 2) il S M last bl bp bs (adjK on a b (adj il) 1) wr il') ∨
  (i = .int .i64 2 ∧ ∃ il', SetAt w0 B (N + 4) il S M last bl bp bs (adjK on a b (adj il) 2) wr il')

theorem Web.drewN (h : Web w B N il S M last bl bp bs) (n : Nat) : Web (w.drewN n) B N il S M last bl bp bs := h.keep (T := fun _ => False) ⟨rfl, rfl, rfl, Nat.le_refl _, fun _ _ _ => rfl⟩ (fun _ _ h => h)

/-- The three runs that write. -/
theorem Web.fresh_run (h : Web w B N il S M last bl bp bs) {x : Int} (hx : I64 x) (hN : N < BN) :
    ∃ w', (Instr.mapUpdate 55 (.map (some bl)) (.int .i64 x) (.map (some w.heap.size))).run Try.prog (w.alloc (.map #[] 0)) = .ok () w' ∧ Web w' B (N + 1) (ins x (w.heap.size, []) il) S M last bl bp bs ∧ Turn (· = bl) w w' := by
  have hA : Below w.heap.size w (w.alloc (.map #[] 0)) := (Below.refl _ w).alloc (Nat.le_refl _) _
  have h1 := h.block hA
  obtain ⟨w', hrun, hI, ht⟩ := h1.outer.store (t := 55) Try.underlying3 Try.underlying55 (Nat.lt_trans hN (by decide)) hx (.map (some w.heap.size))
  have hT : Turn (· = bl) w w' := (Turn.alloc _ w _).trans (Turn.of_map ht)
  refine ⟨w', hrun, h.fresh (Nat.le_refl _) hT (fun k hk => hk) (Nat.le_succ N) ?_ hI, hT⟩
  refine (IMap.made w 3).same ((Turn.of_map ht).block _ (by simp) ?_)
  have := h.lt (k := bl) (by simp [wb])
  omega
theorem Web.on_run (h : Web w B N il S M last bl bp bs) {x y : Int} {q : Nat × List Int} (hq : look x il = some q) (hy : I64 y) (hN : N < BN) :
    ∃ w', (Instr.mapUpdate 65 (.map (some q.1)) (.int .i64 y) (.bool true)).run Try.prog w = .ok () w' ∧ Web w' B (N + 1) (ins x (q.1, upd true y q.2) il) S M last bl bp bs ∧ Half w il (ins x (q.1, upd true y q.2) il) x y true ∧ Turn (· = q.1) w w' := by
  obtain ⟨w', hrun, hI, ht⟩ := (h.inner _ (look_mem hq)).store (t := 65) Try.underlying3 Try.underlying65 (Nat.lt_trans hN (by decide)) hy (.bool true)
  have := h.half (on := true) hq ht (Nat.le_succ N) (by rw [ins_true] at hI; exact hI)
  exact ⟨w', hrun, this.1, this.2, Turn.of_map ht⟩
theorem Web.off_run (h : Web w B N il S M last bl bp bs) {x y : Int} {q : Nat × List Int} (hq : look x il = some q) (hy : I64 y) :
    ∃ w', (Builtin.delete_ #[65, 3] 0 #[.map (some q.1), .int .i64 y]).run Try.prog w = .ok (.tuple #[]) w' ∧ Web w' B (N + 1) (ins x (q.1, upd false y q.2) il) S M last bl bp bs ∧ Half w il (ins x (q.1, upd false y q.2) il) x y false ∧ Turn (· = q.1) w w' := by
  obtain ⟨w', hrun, hI, ht⟩ := (h.inner _ (look_mem hq)).drop (t := 65) Try.underlying3 Try.underlying65 hy 0
  have := h.half (on := false) hq ht (Nat.le_succ N) (by rw [del_true] at hI; exact hI.mono (Nat.le_succ N))
  exact ⟨w', hrun, this.1, this.2, Turn.of_map ht⟩

theorem idx0 (a b c d : Int) (w : World) : (Instr.index 80 (.agg #[.int .i64 a, .int .i64 b, .int .i64 c, .int .i64 d]) (.int .i64 0)).run Try.prog w = .ok (.agg #[.int .i64 a, .int .i64 b]) w := by kernel_rfl
theorem idx1 (a b c d : Int) (w : World) : (Instr.index 80 (.agg #[.int .i64 a, .int .i64 b, .int .i64 c, .int .i64 d]) (.int .i64 1)).run Try.prog w = .ok (.agg #[.int .i64 c, .int .i64 d]) w := by kernel_rfl

theorem Web.setPairs (h : Web w B N il S M last bl bp bs) {S' : Int → Int → Bool} (ht : w.mapTurned w' bp) {N' : Nat} (hs : PMap w' bp N' S') (hN : N ≤ N') : Web w' B N' il S' M last bl bp bs := by
  have ht := Turn.of_map ht
  have hnd := h.nodup
  have hn : ∀ k ∈ B :: bl :: bs :: il.map (·.2.1), k ≠ bp := by
    intro k hk e
    subst e
    simp only [List.nodup_cons, List.mem_cons, not_or] at hnd
    simp only [List.mem_cons] at hk
    rcases hk with rfl | rfl | rfl | hk
    · exact hnd.1.2.1 rfl
    · exact hnd.2.1.1 rfl
    · exact hnd.2.2.1.1 rfl
    · exact hnd.2.2.1.2 hk
  refine ⟨?_, ?_, fun p hp => ?_, hs, ?_, h.nodup⟩
  · exact (ht.block _ (Array.getElem?_eq_some_iff.1 h.head).1 (hn _ (by simp))).trans h.head
  · exact (h.outer.same (ht.block _ h.outer.lt (hn _ (by simp)))).mono hN
  · exact ((h.inner p hp).same (ht.block _ (h.inner p hp).lt (hn _ (by simp only [List.mem_cons, List.mem_map]; exact .inr (.inr (.inr ⟨p, hp, rfl⟩)))))).mono hN
  · exact (h.seen.same (ht.block _ h.seen.lt (hn _ (by simp)))).mono hN

def pairS (on : Bool) (x y : Int) (S : Int → Int → Bool) : Int → Int → Bool := if on then fun u v => (u == x && v == y) || S u v else fun u v => !(u == x && v == y) && S u v
theorem Web.pair_on_run (h : Web w B N il S M last bl bp bs) {x y : Int} (hx : I64 x) (hy : I64 y) (hN : N < BN) :
    ∃ w', (Instr.mapUpdate 56 (.map (some bp)) (.agg #[.int .i64 x, .int .i64 y]) (.bool true)).run Try.prog w = .ok () w' ∧ Web w' B (N + 1) il (pairS true x y S) M last bl bp bs ∧ Turn (· = bp) w w' := by
  obtain ⟨w', hrun, hI, ht⟩ := h.pairs.store (t := 56) Try.underlying56 (Nat.lt_trans hN (by decide)) hx hy
  exact ⟨w', hrun, h.setPairs ht hI (Nat.le_succ N), Turn.of_map ht⟩
theorem Web.pair_off_run (h : Web w B N il S M last bl bp bs) {x y : Int} (hx : I64 x) (hy : I64 y) :
    ∃ w', (Builtin.delete_ #[56, 60] 0 #[.map (some bp), .agg #[.int .i64 x, .int .i64 y]]).run Try.prog w = .ok (.tuple #[]) w' ∧ Web w' B (N + 1) il (pairS false x y S) M last bl bp bs ∧ Turn (· = bp) w w' := by
  obtain ⟨w', hrun, hI, ht⟩ := h.pairs.drop (t := 56) Try.underlying56 hx hy 0
  exact ⟨w', hrun, h.setPairs ht (hI.mono (Nat.le_succ N)) (Nat.le_succ N), Turn.of_map ht⟩

/-- A box of two ints that was made behind the Web stays while the Web is written. -/
theorem Turn.cell {T : Nat → Prop} (ht : Turn T w w') {b i : Nat} (hb : b < w.heap.size) (hT : ¬ T b) : w'.cell? ⟨b, i, none⟩ = w.cell? ⟨b, i, none⟩ := World.cell?_of_block (w := w) (ht.block b hb hT)

theorem Turn.comp {T T' : Nat → Prop} {a b c : World} (h : Turn T a b) (k : Turn T' b c) (hT : ∀ k, k < a.heap.size → T' k → T k) : Turn T a c :=
  ⟨k.os.trans h.os, k.tape.trans h.tape, k.output.trans h.output, Nat.le_trans h.size k.size, fun i hi hn => (k.block i (Nat.lt_of_lt_of_le hi h.size) fun h' => hn (hT i hi h')).trans (h.block i hi hn)⟩

theorem SetAt.next {w0 : World} {f g : Int → List Int} {il0 il' il2 : List (Int × Nat × List Int)} {N0 N2 : Nat} {wr w2 : World} (h : SetAt w0 B N0 il0 S M last bl bp bs f wr il') {x y : Int} {on : Bool} (hW : Web w2 B N2 il2 S M last bl bp bs)
    (ha : ∀ z, adj il2 z = if z = x then upd on y (adj il' x) else adj il' z) (hg : ∀ z, g z = if z = x then upd on y (f x) else f z) (hf : ∀ j ∈ il2.map (·.2.1), j ∈ il'.map (·.2.1) ∨ wr.heap.size ≤ j) (ht : Turn (· ∈ wb B bl bp bs il') wr w2) : SetAt w0 B N2 il0 S M last bl bp bs g w2 il2 := by
  have hsz := h.turn.size
  refine ⟨hW, fun z => ?_, fun j hj => ?_, h.turn.comp ht fun k hk hT => ?_⟩
  · rw [ha, hg, h.adjs, h.adjs]
  · rcases hf j hj with hj | hj
    · exact h.fresh j hj
    · exact .inr (Nat.le_trans hsz hj)
  · simp only [wb, List.mem_cons] at hT ⊢
    rcases hT with hT | hT | hT | hT | hT
    · exact .inl hT
    · exact .inr (.inl hT)
    · exact .inr (.inr (.inl hT))
    · exact .inr (.inr (.inr (.inl hT)))
    · rcases h.fresh k hT with hT | hT
      · exact .inr (.inr (.inr (.inr hT)))
      · omega

theorem Turn.drewN {T : Nat → Prop} {a b : World} (h : Turn T a b) (n : Nat) : Turn T a (b.drewN n) := ⟨h.os, h.tape, h.output, h.size, h.block⟩
theorem adj_none {il : List (Int × Nat × List Int)} {x : Int} (h : look x il = none) : adj il x = [] := by unfold adj; rw [h]
theorem SetAt.step_some {w0 : World} {f g : Int → List Int} {il0 il' : List (Int × Nat × List Int)} {N0 N2 N3 : Nat} {wr w5 w6 : World} (h : SetAt w0 B N0 il0 S M last bl bp bs f wr il') {x y : Int} {on : Bool} {q : Nat × List Int} (hq : look x il' = some q)
    (hT5 : Turn (fun _ => False) wr w5) (hW6 : Web w6 B N2 (ins x (q.1, upd on y q.2) il') S M last bl bp bs) (hH : Half w5 il' (ins x (q.1, upd on y q.2) il') x y on) (hT6 : Turn (· = q.1) w5 w6) (hN : N2 ≤ N3) (hg : ∀ z, g z = if z = x then upd on y (f x) else f z) :
    ∃ il2, SetAt w0 B N3 il0 S M last bl bp bs g w6 il2 :=
  ⟨_, h.next (hW6.mono hN) hH.adjs hg (fun j hj => (hH.fresh j hj).imp id fun h => Nat.le_trans hT5.size h)
    ((hT5.mono (T' := (· ∈ wb B bl bp bs il')) fun _ _ h => h.elim).comp hT6 fun k _ e => by subst e; simp only [wb, List.mem_cons, List.mem_map]; exact .inr (.inr (.inr (.inr ⟨_, look_mem hq, rfl⟩))))⟩
theorem SetAt.step_none {w0 : World} {f g : Int → List Int} {il0 il' : List (Int × Nat × List Int)} {N0 N2 N3 : Nat} {wr w3 w4 w5 w6 : World} (h : SetAt w0 B N0 il0 S M last bl bp bs f wr il') {x y : Int} {on : Bool} (hq : look x il' = none)
    (hT3 : Turn (fun _ => False) wr w3) (hT4 : Turn (· = bl) w3 w4) (hT5 : Turn (fun _ => False) w4 w5)
    (hW6 : Web w6 B N2 (ins x (w3.heap.size, upd on y []) (ins x (w3.heap.size, []) il')) S M last bl bp bs) (hH : Half w5 (ins x (w3.heap.size, []) il') (ins x (w3.heap.size, upd on y []) (ins x (w3.heap.size, []) il')) x y on) (hT6 : Turn (· = w3.heap.size) w5 w6)
    (hN : N2 ≤ N3) (hg : ∀ z, g z = if z = x then upd on y (f x) else f z) :
    ∃ il2, SetAt w0 B N3 il0 S M last bl bp bs g w6 il2 := by
  refine ⟨_, h.next (hW6.mono hN) (fun z => ?_) hg (fun j hj => ?_) ?_⟩
  · rw [hH.adjs, adj_ins, if_pos rfl, adj_none hq]
    by_cases hz : z = x
    · rw [if_pos hz, if_pos hz]
    · rw [if_neg hz, if_neg hz, adj_ins, if_neg hz]
  · rcases hH.fresh j hj with h1 | h1
    · obtain ⟨p, hp, rfl⟩ := List.mem_map.1 h1
      rcases mem_ins hp with rfl | hp
      · exact .inr hT3.size
      · exact .inl (List.mem_map.2 ⟨p, hp, rfl⟩)
    · exact .inr (Nat.le_trans (Nat.le_trans hT3.size hT4.size) (Nat.le_trans hT5.size h1))
  · refine (((hT3.mono (T' := (· ∈ wb B bl bp bs il')) fun _ _ h => h.elim).comp hT4 fun k _ e => by subst e; simp [wb]).comp hT5 fun _ _ h => h.elim).comp hT6 fun k hk e => ?_
    subst e
    have := hT3.size
    omega

set_option maxRecDepth 100000 in
set_option maxHeartbeats 4000000 in
theorem set_on (h : Web w B N il S M last bl bp bs) (hN : N + 6 < BN) {a b : Int} (ha : I64 a) (hb : I64 b) :
    Calls Try.prog 40 #[.pointer (some ⟨B, 0, none⟩), .int .i64 a, .int .i64 b, .bool true] w fun e w' => e = .returned (.tuple #[]) ∧ ∃ il', Web w' B (N + 5) il' (pairS true (min a b) (max a b) S) M last bl bp bs ∧ (∀ z, adj il' z = adj2 true a b (adj il) z) ∧
      (∀ j ∈ il'.map (·.2.1), j ∈ il.map (·.2.1) ∨ w.heap.size ≤ j) ∧ Turn (· ∈ wb B bl bp bs il) w w' := by
  have hmm := @run_makeMap Try.prog
  have i0 := idx0 a b b a
  have i1 := idx1 a b b a
  have qM := fun (w : World) r => run_eql_map_nil (P := Try.prog) w 65 3 4 r Try.underlying65
  go_enter Try.func40, Try.ntmps40
  go_wp2
  go_loopw [18] (fun i wr => SetRel w B N il S M last bl bp bs a b true i wr) (fun i _ => 2 - (intOf i).toNat)
  case atStart => exact .inl ⟨rfl, il, h, fun _ => rfl, fun _ h => .inl h, Turn.refl _ _⟩
  case round =>
    rcases hrel with ⟨rfl, il', hA⟩ | ⟨rfl, il', hA⟩ | ⟨rfl, il', hA⟩
    · have hW := hA.web
      have hc0 : ∀ n, ((wr.alloc (.cells #[.int .i64 a, .int .i64 b] 60)).drewN n).cell? ⟨B, 0, none⟩ = some (.map (some bl)) := fun n => ((hW.block ((Below.refl _ wr).alloc (Nat.le_refl _) _)).drewN n).cell0
      have hrun := fun n => ((hW.block (w' := (wr.alloc (.cells #[.int .i64 a, .int .i64 b] 60))) ((Below.refl _ wr).alloc (Nat.le_refl _) _)).drewN n).outer.look (t := 55) Try.underlying3 Try.underlying55 (zeroM _) ha
      rw [look_il] at hrun
      cases hq : look a il' with
      | none =>
        rw [hq] at hrun
        simp only [Option.map_none, Option.getD_none] at hrun
        have HQ := Lib.hid hq
        clear hq
        go_wp2_with fail
        go_quiet (fail)
        have hW2 := (hW.block (w' := (wr.alloc (.cells #[.int .i64 a, .int .i64 b] 60))) ((Below.refl _ wr).alloc (Nat.le_refl _) _)).drewN nq
        have hs2 : wr.heap.size < ((wr.alloc (.cells #[.int .i64 a, .int .i64 b] 60)).drewN nq).heap.size := by simp [World.drewN]
        have p0 : ((wr.alloc (.cells #[.int .i64 a, .int .i64 b] 60)).drewN nq).cell? ⟨wr.heap.size, 0, none⟩ = some (.int .i64 a) := (World.cell?_alloc_at _ _ _ _ rfl).trans rfl
        have p1 : ((wr.alloc (.cells #[.int .i64 a, .int .i64 b] 60)).drewN nq).cell? ⟨wr.heap.size, 1, none⟩ = some (.int .i64 b) := (World.cell?_alloc_at _ _ _ _ rfl).trans rfl
        have hT2 : Turn (fun _ => False) wr ((wr.alloc (.cells #[.int .i64 a, .int .i64 b] 60)).drewN nq) := ⟨rfl, rfl, rfl, by simp [World.drewN], fun k hk _ => Below.heap_alloc _ _ _ hk⟩
        clear hrun hc0
        generalize (wr.alloc (.cells #[.int .i64 a, .int .i64 b] 60)).drewN nq = w2 at hW2 hs2 p0 p1 hT2 ⊢
        obtain ⟨w4, hst0, hW4, hT4⟩ := (hW2.drewN 1).fresh_run ha (Nat.lt_of_le_of_lt (by omega) hN)
        have hst : (Instr.mapUpdate 55 (.map (some bl)) (.int .i64 a) (.map (some w2.heap.size))).run Try.prog (w2.alloc (.map #[] 0)).drew = .ok () w4 := hst0
        change Web w4 B _ (ins a (w2.heap.size, []) il') S M last bl bp bs at hW4
        have c0 := hW2.cell0
        have c0a := (hW2.block ((Below.refl _ w2).alloc (Nat.le_refl _) (.map #[] 0))).cell0
        have p0a : (w2.alloc (.map #[] 0)).cell? ⟨wr.heap.size, 0, none⟩ = some (.int .i64 a) := ((Turn.alloc (fun _ => False) w2 (.map #[] 0)).cell hs2 (fun h => h)).trans p0
        go_wp2_with fail
        go_region
        have hs3 : wr.heap.size < (w2.drewN 1).heap.size := hs2
        have hT3 : Turn (fun _ => False) wr (w2.drewN 1) := hT2.drewN 1
        have p3 : (w2.drewN 1).cell? ⟨wr.heap.size, 0, none⟩ = some (.int .i64 a) := p0
        have q3 : (w2.drewN 1).cell? ⟨wr.heap.size, 1, none⟩ = some (.int .i64 b) := p1
        have hbx : wr.heap.size ≠ bl := fun e => by have := hW.lt (k := bl) (by simp [wb]); omega
        have p4 := (hT4.cell (i := 0) hs3 hbx).trans p3
        have q4 := (hT4.cell (i := 1) hs3 hbx).trans q3
        have hs4 := Nat.lt_of_lt_of_le hs3 hT4.size
        have hq4 : look a (ins a (w2.heap.size, ([] : List Int)) il') = some (w2.heap.size, []) := look_ins_same
        have c4 := hW4.cell0
        have hrun4 := fun n => (hW4.drewN n).outer.look (t := 55) Try.underlying3 Try.underlying55 (zeroM _) ha
        rw [look_il, hq4] at hrun4
        simp only [Option.map_some, Option.getD_some] at hrun4
        have hrun5 := hrun4 1
        change (Instr.lookup _ _ _ _).run _ w4.drew = .ok _ w4.drew at hrun5
        clear p3 q3 hs3 p0 p1 hs2 c0 c0a p0a hst hst0
        go_wp2_with fail
        go_still_tail 9, (by kernel_rfl)
        change wpList _ _ _ _ _ w4.drew
        have hW5 := hW4.drewN 1
        clear c4 p4 q4 hrun4 hrun5
        change wpList _ _ _ _ _ (w4.drewN 1)
        obtain ⟨w6, hst6, hW6, hH6, hT6⟩ := hW5.on_run hq4 hb (Nat.lt_of_le_of_lt (by omega) hN)
        have hst6' := hst6
        go_wp2_with fail
        go_roundw
        case rel => exact .inr (.inl ⟨rfl, hA.step_none (w3 := w2.drewN 1) HQ.out hT3 hT4 ((Turn.refl _ w4).drewN 1) hW6 hH6 hT6 (by omega) (fun _ => rfl)⟩)
        case measure => simp [intOf]
      | some q =>
        rw [hq] at hrun
        simp only [Option.map_some, Option.getD_some] at hrun
        have HQ := Lib.hid hq
        clear hq
        go_wp2_with fail
        go_quiet (fail)
        have hW2 := (hW.block (w' := (wr.alloc (.cells #[.int .i64 a, .int .i64 b] 60))) ((Below.refl _ wr).alloc (Nat.le_refl _) _)).drewN nq
        have hs2 : wr.heap.size < ((wr.alloc (.cells #[.int .i64 a, .int .i64 b] 60)).drewN nq).heap.size := by simp [World.drewN]
        have p0 : ((wr.alloc (.cells #[.int .i64 a, .int .i64 b] 60)).drewN nq).cell? ⟨wr.heap.size, 0, none⟩ = some (.int .i64 a) := (World.cell?_alloc_at _ _ _ _ rfl).trans rfl
        have p1 : ((wr.alloc (.cells #[.int .i64 a, .int .i64 b] 60)).drewN nq).cell? ⟨wr.heap.size, 1, none⟩ = some (.int .i64 b) := (World.cell?_alloc_at _ _ _ _ rfl).trans rfl
        have hT2 : Turn (fun _ => False) wr ((wr.alloc (.cells #[.int .i64 a, .int .i64 b] 60)).drewN nq) := ⟨rfl, rfl, rfl, by simp [World.drewN], fun k hk _ => Below.heap_alloc _ _ _ hk⟩
        clear hrun hc0
        generalize (wr.alloc (.cells #[.int .i64 a, .int .i64 b] 60)).drewN nq = w2 at hW2 hs2 p0 p1 hT2 ⊢
        obtain ⟨w4, hw4⟩ : ∃ w4, w4 = w2 := ⟨_, rfl⟩
        rw [← hw4] at hW2 hs2 p0 p1 hT2 ⊢
        have hW4 := hW2
        have hs4 := hs2
        have p4 := p0
        have q4 := p1
        clear hW2 hs2 p0 p1 hw4
        have c4 := hW4.cell0
        have hrun4 := fun n => (hW4.drewN n).outer.look (t := 55) Try.underlying3 Try.underlying55 (zeroM _) ha
        rw [look_il, HQ.out] at hrun4
        simp only [Option.map_some, Option.getD_some] at hrun4
        have hrun5 := hrun4 1
        change (Instr.lookup _ _ _ _).run _ w4.drew = .ok _ w4.drew at hrun5
        go_wp2_with fail
        go_still_tail 9, (by kernel_rfl)
        change wpList _ _ _ _ _ w4.drew
        have hW5 := hW4.drewN 1
        clear c4 p4 q4 hrun4 hrun5
        change wpList _ _ _ _ _ (w4.drewN 1)
        obtain ⟨w6, hst6, hW6, hH6, hT6⟩ := hW5.on_run HQ.out hb (Nat.lt_of_le_of_lt (by omega) hN)
        have hst6' := hst6
        go_wp2_with fail
        go_roundw
        case rel => exact .inr (.inl ⟨rfl, hA.step_some HQ.out (hT2.drewN 1) hW6 hH6 hT6 (by omega) (fun _ => rfl)⟩)
        case measure => simp [intOf]
    · have hW := hA.web
      have hc0 : ∀ n, ((wr.alloc (.cells #[.int .i64 b, .int .i64 a] 60)).drewN n).cell? ⟨B, 0, none⟩ = some (.map (some bl)) := fun n => ((hW.block ((Below.refl _ wr).alloc (Nat.le_refl _) _)).drewN n).cell0
      have hrun := fun n => ((hW.block (w' := (wr.alloc (.cells #[.int .i64 b, .int .i64 a] 60))) ((Below.refl _ wr).alloc (Nat.le_refl _) _)).drewN n).outer.look (t := 55) Try.underlying3 Try.underlying55 (zeroM _) hb
      rw [look_il] at hrun
      cases hq : look b il' with
      | none =>
        rw [hq] at hrun
        simp only [Option.map_none, Option.getD_none] at hrun
        have HQ := Lib.hid hq
        clear hq
        go_wp2_with fail
        go_quiet (fail)
        have hW2 := (hW.block (w' := (wr.alloc (.cells #[.int .i64 b, .int .i64 a] 60))) ((Below.refl _ wr).alloc (Nat.le_refl _) _)).drewN nq
        have hs2 : wr.heap.size < ((wr.alloc (.cells #[.int .i64 b, .int .i64 a] 60)).drewN nq).heap.size := by simp [World.drewN]
        have p0 : ((wr.alloc (.cells #[.int .i64 b, .int .i64 a] 60)).drewN nq).cell? ⟨wr.heap.size, 0, none⟩ = some (.int .i64 b) := (World.cell?_alloc_at _ _ _ _ rfl).trans rfl
        have p1 : ((wr.alloc (.cells #[.int .i64 b, .int .i64 a] 60)).drewN nq).cell? ⟨wr.heap.size, 1, none⟩ = some (.int .i64 a) := (World.cell?_alloc_at _ _ _ _ rfl).trans rfl
        have hT2 : Turn (fun _ => False) wr ((wr.alloc (.cells #[.int .i64 b, .int .i64 a] 60)).drewN nq) := ⟨rfl, rfl, rfl, by simp [World.drewN], fun k hk _ => Below.heap_alloc _ _ _ hk⟩
        clear hrun hc0
        generalize (wr.alloc (.cells #[.int .i64 b, .int .i64 a] 60)).drewN nq = w2 at hW2 hs2 p0 p1 hT2 ⊢
        obtain ⟨w4, hst0, hW4, hT4⟩ := (hW2.drewN 1).fresh_run hb (Nat.lt_of_le_of_lt (by omega) hN)
        have hst : (Instr.mapUpdate 55 (.map (some bl)) (.int .i64 b) (.map (some w2.heap.size))).run Try.prog (w2.alloc (.map #[] 0)).drew = .ok () w4 := hst0
        change Web w4 B _ (ins b (w2.heap.size, []) il') S M last bl bp bs at hW4
        have c0 := hW2.cell0
        have c0a := (hW2.block ((Below.refl _ w2).alloc (Nat.le_refl _) (.map #[] 0))).cell0
        have p0a : (w2.alloc (.map #[] 0)).cell? ⟨wr.heap.size, 0, none⟩ = some (.int .i64 b) := ((Turn.alloc (fun _ => False) w2 (.map #[] 0)).cell hs2 (fun h => h)).trans p0
        go_wp2_with fail
        go_region
        have hs3 : wr.heap.size < (w2.drewN 1).heap.size := hs2
        have hT3 : Turn (fun _ => False) wr (w2.drewN 1) := hT2.drewN 1
        have p3 : (w2.drewN 1).cell? ⟨wr.heap.size, 0, none⟩ = some (.int .i64 b) := p0
        have q3 : (w2.drewN 1).cell? ⟨wr.heap.size, 1, none⟩ = some (.int .i64 a) := p1
        have hbx : wr.heap.size ≠ bl := fun e => by have := hW.lt (k := bl) (by simp [wb]); omega
        have p4 := (hT4.cell (i := 0) hs3 hbx).trans p3
        have q4 := (hT4.cell (i := 1) hs3 hbx).trans q3
        have hs4 := Nat.lt_of_lt_of_le hs3 hT4.size
        have hq4 : look b (ins b (w2.heap.size, ([] : List Int)) il') = some (w2.heap.size, []) := look_ins_same
        have c4 := hW4.cell0
        have hrun4 := fun n => (hW4.drewN n).outer.look (t := 55) Try.underlying3 Try.underlying55 (zeroM _) hb
        rw [look_il, hq4] at hrun4
        simp only [Option.map_some, Option.getD_some] at hrun4
        have hrun5 := hrun4 1
        change (Instr.lookup _ _ _ _).run _ w4.drew = .ok _ w4.drew at hrun5
        clear p3 q3 hs3 p0 p1 hs2 c0 c0a p0a hst hst0
        go_wp2_with fail
        go_still_tail 9, (by kernel_rfl)
        change wpList _ _ _ _ _ w4.drew
        have hW5 := hW4.drewN 1
        clear c4 p4 q4 hrun4 hrun5
        change wpList _ _ _ _ _ (w4.drewN 1)
        obtain ⟨w6, hst6, hW6, hH6, hT6⟩ := hW5.on_run hq4 ha (Nat.lt_of_le_of_lt (by omega) hN)
        have hst6' := hst6
        go_wp2_with fail
        go_roundw
        case rel => exact .inr (.inr ⟨rfl, hA.step_none (w3 := w2.drewN 1) HQ.out hT3 hT4 ((Turn.refl _ w4).drewN 1) hW6 hH6 hT6 (by omega) (fun _ => rfl)⟩)
        case measure => simp [intOf]
      | some q =>
        rw [hq] at hrun
        simp only [Option.map_some, Option.getD_some] at hrun
        have HQ := Lib.hid hq
        clear hq
        go_wp2_with fail
        go_quiet (fail)
        have hW2 := (hW.block (w' := (wr.alloc (.cells #[.int .i64 b, .int .i64 a] 60))) ((Below.refl _ wr).alloc (Nat.le_refl _) _)).drewN nq
        have hs2 : wr.heap.size < ((wr.alloc (.cells #[.int .i64 b, .int .i64 a] 60)).drewN nq).heap.size := by simp [World.drewN]
        have p0 : ((wr.alloc (.cells #[.int .i64 b, .int .i64 a] 60)).drewN nq).cell? ⟨wr.heap.size, 0, none⟩ = some (.int .i64 b) := (World.cell?_alloc_at _ _ _ _ rfl).trans rfl
        have p1 : ((wr.alloc (.cells #[.int .i64 b, .int .i64 a] 60)).drewN nq).cell? ⟨wr.heap.size, 1, none⟩ = some (.int .i64 a) := (World.cell?_alloc_at _ _ _ _ rfl).trans rfl
        have hT2 : Turn (fun _ => False) wr ((wr.alloc (.cells #[.int .i64 b, .int .i64 a] 60)).drewN nq) := ⟨rfl, rfl, rfl, by simp [World.drewN], fun k hk _ => Below.heap_alloc _ _ _ hk⟩
        clear hrun hc0
        generalize (wr.alloc (.cells #[.int .i64 b, .int .i64 a] 60)).drewN nq = w2 at hW2 hs2 p0 p1 hT2 ⊢
        obtain ⟨w4, hw4⟩ : ∃ w4, w4 = w2 := ⟨_, rfl⟩
        rw [← hw4] at hW2 hs2 p0 p1 hT2 ⊢
        have hW4 := hW2
        have hs4 := hs2
        have p4 := p0
        have q4 := p1
        clear hW2 hs2 p0 p1 hw4
        have c4 := hW4.cell0
        have hrun4 := fun n => (hW4.drewN n).outer.look (t := 55) Try.underlying3 Try.underlying55 (zeroM _) hb
        rw [look_il, HQ.out] at hrun4
        simp only [Option.map_some, Option.getD_some] at hrun4
        have hrun5 := hrun4 1
        change (Instr.lookup _ _ _ _).run _ w4.drew = .ok _ w4.drew at hrun5
        go_wp2_with fail
        go_still_tail 9, (by kernel_rfl)
        change wpList _ _ _ _ _ w4.drew
        have hW5 := hW4.drewN 1
        clear c4 p4 q4 hrun4 hrun5
        change wpList _ _ _ _ _ (w4.drewN 1)
        obtain ⟨w6, hst6, hW6, hH6, hT6⟩ := hW5.on_run HQ.out ha (Nat.lt_of_le_of_lt (by omega) hN)
        have hst6' := hst6
        go_wp2_with fail
        go_roundw
        case rel => exact .inr (.inr ⟨rfl, hA.step_some HQ.out (hT2.drewN 1) hW6 hH6 hT6 (by omega) (fun _ => rfl)⟩)
        case measure => simp [intOf]
    · have hW := hA.web
      have hW1 := hW.block (w' := wr.alloc (.cells #[.int .i64 (min a b), .int .i64 (max a b)] 60)) ((Below.refl _ wr).alloc (Nat.le_refl _) _)
      have p0 : (wr.alloc (.cells #[.int .i64 (min a b), .int .i64 (max a b)] 60)).cell? ⟨wr.heap.size, 0, none⟩ = some (.int .i64 (min a b)) := (World.cell?_alloc_at _ _ _ _ rfl).trans rfl
      have p1 : (wr.alloc (.cells #[.int .i64 (min a b), .int .i64 (max a b)] 60)).cell? ⟨wr.heap.size, 1, none⟩ = some (.int .i64 (max a b)) := (World.cell?_alloc_at _ _ _ _ rfl).trans rfl
      have hT2 : Turn (fun _ => False) wr (wr.alloc (.cells #[.int .i64 (min a b), .int .i64 (max a b)] 60)) := Turn.alloc _ _ _
      go_wp2_with fail
      generalize wr.alloc (.cells #[.int .i64 (min a b), .int .i64 (max a b)] 60) = w2 at hW1 p0 p1 hT2 ⊢
      have c1 := hW1.cell1
      go_still_tail 5, (by kernel_rfl)
      change wpList _ _ _ _ _ (w2.drewN 1)
      obtain ⟨w6, hst6, hW6, hT6⟩ := (hW1.drewN 1).pair_on_run (ha.min hb) (ha.max hb) (Nat.lt_of_le_of_lt (by omega) hN)
      go_wp2_with fail
      go_end0
      refine ⟨rfl, il', hW6, hA.adjs, hA.fresh, (hA.turn.comp (hT2.drewN 1) fun _ _ h => h.elim).comp hT6 fun k _ e => by subst e; simp [wb]⟩

set_option maxRecDepth 100000 in
set_option maxHeartbeats 4000000 in
theorem set_off (h : Web w B N il S M last bl bp bs) (hN : N + 6 < BN) {a b : Int} (ha : I64 a) (hb : I64 b) :
    Calls Try.prog 40 #[.pointer (some ⟨B, 0, none⟩), .int .i64 a, .int .i64 b, .bool false] w fun e w' => e = .returned (.tuple #[]) ∧ ∃ il', Web w' B (N + 5) il' (pairS false (min a b) (max a b) S) M last bl bp bs ∧ (∀ z, adj il' z = adj2 false a b (adj il) z) ∧
      (∀ j ∈ il'.map (·.2.1), j ∈ il.map (·.2.1) ∨ w.heap.size ≤ j) ∧ Turn (· ∈ wb B bl bp bs il) w w' := by
  have hmm := @run_makeMap Try.prog
  have i0 := idx0 a b b a
  have i1 := idx1 a b b a
  have qM := fun (w : World) r => run_eql_map_nil (P := Try.prog) w 65 3 4 r Try.underlying65
  go_enter Try.func40, Try.ntmps40
  go_wp2
  go_loopw [18] (fun i wr => SetRel w B N il S M last bl bp bs a b false i wr) (fun i _ => 2 - (intOf i).toNat)
  case atStart => exact .inl ⟨rfl, il, h, fun _ => rfl, fun _ h => .inl h, Turn.refl _ _⟩
  case round =>
    rcases hrel with ⟨rfl, il', hA⟩ | ⟨rfl, il', hA⟩ | ⟨rfl, il', hA⟩
    · have hW := hA.web
      have hc0 : ∀ n, ((wr.alloc (.cells #[.int .i64 a, .int .i64 b] 60)).drewN n).cell? ⟨B, 0, none⟩ = some (.map (some bl)) := fun n => ((hW.block ((Below.refl _ wr).alloc (Nat.le_refl _) _)).drewN n).cell0
      have hrun := fun n => ((hW.block (w' := (wr.alloc (.cells #[.int .i64 a, .int .i64 b] 60))) ((Below.refl _ wr).alloc (Nat.le_refl _) _)).drewN n).outer.look (t := 55) Try.underlying3 Try.underlying55 (zeroM _) ha
      rw [look_il] at hrun
      cases hq : look a il' with
      | none =>
        rw [hq] at hrun
        simp only [Option.map_none, Option.getD_none] at hrun
        have HQ := Lib.hid hq
        clear hq
        go_wp2_with fail
        go_quiet (fail)
        have hW2 := (hW.block (w' := (wr.alloc (.cells #[.int .i64 a, .int .i64 b] 60))) ((Below.refl _ wr).alloc (Nat.le_refl _) _)).drewN nq
        have hs2 : wr.heap.size < ((wr.alloc (.cells #[.int .i64 a, .int .i64 b] 60)).drewN nq).heap.size := by simp [World.drewN]
        have p0 : ((wr.alloc (.cells #[.int .i64 a, .int .i64 b] 60)).drewN nq).cell? ⟨wr.heap.size, 0, none⟩ = some (.int .i64 a) := (World.cell?_alloc_at _ _ _ _ rfl).trans rfl
        have p1 : ((wr.alloc (.cells #[.int .i64 a, .int .i64 b] 60)).drewN nq).cell? ⟨wr.heap.size, 1, none⟩ = some (.int .i64 b) := (World.cell?_alloc_at _ _ _ _ rfl).trans rfl
        have hT2 : Turn (fun _ => False) wr ((wr.alloc (.cells #[.int .i64 a, .int .i64 b] 60)).drewN nq) := ⟨rfl, rfl, rfl, by simp [World.drewN], fun k hk _ => Below.heap_alloc _ _ _ hk⟩
        clear hrun hc0
        generalize (wr.alloc (.cells #[.int .i64 a, .int .i64 b] 60)).drewN nq = w2 at hW2 hs2 p0 p1 hT2 ⊢
        obtain ⟨w4, hst0, hW4, hT4⟩ := (hW2.drewN 1).fresh_run ha (Nat.lt_of_le_of_lt (by omega) hN)
        have hst : (Instr.mapUpdate 55 (.map (some bl)) (.int .i64 a) (.map (some w2.heap.size))).run Try.prog (w2.alloc (.map #[] 0)).drew = .ok () w4 := hst0
        change Web w4 B _ (ins a (w2.heap.size, []) il') S M last bl bp bs at hW4
        have c0 := hW2.cell0
        have c0a := (hW2.block ((Below.refl _ w2).alloc (Nat.le_refl _) (.map #[] 0))).cell0
        have p0a : (w2.alloc (.map #[] 0)).cell? ⟨wr.heap.size, 0, none⟩ = some (.int .i64 a) := ((Turn.alloc (fun _ => False) w2 (.map #[] 0)).cell hs2 (fun h => h)).trans p0
        go_wp2_with fail
        go_region
        have hs3 : wr.heap.size < (w2.drewN 1).heap.size := hs2
        have hT3 : Turn (fun _ => False) wr (w2.drewN 1) := hT2.drewN 1
        have p3 : (w2.drewN 1).cell? ⟨wr.heap.size, 0, none⟩ = some (.int .i64 a) := p0
        have q3 : (w2.drewN 1).cell? ⟨wr.heap.size, 1, none⟩ = some (.int .i64 b) := p1
        have hbx : wr.heap.size ≠ bl := fun e => by have := hW.lt (k := bl) (by simp [wb]); omega
        have p4 := (hT4.cell (i := 0) hs3 hbx).trans p3
        have q4 := (hT4.cell (i := 1) hs3 hbx).trans q3
        have hs4 := Nat.lt_of_lt_of_le hs3 hT4.size
        have hq4 : look a (ins a (w2.heap.size, ([] : List Int)) il') = some (w2.heap.size, []) := look_ins_same
        have c4 := hW4.cell0
        have hrun4 := fun n => (hW4.drewN n).outer.look (t := 55) Try.underlying3 Try.underlying55 (zeroM _) ha
        rw [look_il, hq4] at hrun4
        simp only [Option.map_some, Option.getD_some] at hrun4
        have hrun5 := hrun4 1
        change (Instr.lookup _ _ _ _).run _ w4.drew = .ok _ w4.drew at hrun5
        clear p3 q3 hs3 p0 p1 hs2 c0 c0a p0a hst hst0
        go_wp2_with fail
        go_still_tail 9, (by kernel_rfl)
        change wpList _ _ _ _ _ w4.drew
        have hW5 := hW4.drewN 1
        clear c4 p4 q4 hrun4 hrun5
        change wpList _ _ _ _ _ (w4.drewN 1)
        obtain ⟨w6, hst6, hW6, hH6, hT6⟩ := hW5.off_run hq4 hb
        have hst6' := hst6
        go_wp2_with fail
        go_roundw
        case rel => exact .inr (.inl ⟨rfl, hA.step_none (w3 := w2.drewN 1) HQ.out hT3 hT4 ((Turn.refl _ w4).drewN 1) hW6 hH6 hT6 (by omega) (fun _ => rfl)⟩)
        case measure => simp [intOf]
      | some q =>
        rw [hq] at hrun
        simp only [Option.map_some, Option.getD_some] at hrun
        have HQ := Lib.hid hq
        clear hq
        go_wp2_with fail
        go_quiet (fail)
        have hW2 := (hW.block (w' := (wr.alloc (.cells #[.int .i64 a, .int .i64 b] 60))) ((Below.refl _ wr).alloc (Nat.le_refl _) _)).drewN nq
        have hs2 : wr.heap.size < ((wr.alloc (.cells #[.int .i64 a, .int .i64 b] 60)).drewN nq).heap.size := by simp [World.drewN]
        have p0 : ((wr.alloc (.cells #[.int .i64 a, .int .i64 b] 60)).drewN nq).cell? ⟨wr.heap.size, 0, none⟩ = some (.int .i64 a) := (World.cell?_alloc_at _ _ _ _ rfl).trans rfl
        have p1 : ((wr.alloc (.cells #[.int .i64 a, .int .i64 b] 60)).drewN nq).cell? ⟨wr.heap.size, 1, none⟩ = some (.int .i64 b) := (World.cell?_alloc_at _ _ _ _ rfl).trans rfl
        have hT2 : Turn (fun _ => False) wr ((wr.alloc (.cells #[.int .i64 a, .int .i64 b] 60)).drewN nq) := ⟨rfl, rfl, rfl, by simp [World.drewN], fun k hk _ => Below.heap_alloc _ _ _ hk⟩
        clear hrun hc0
        generalize (wr.alloc (.cells #[.int .i64 a, .int .i64 b] 60)).drewN nq = w2 at hW2 hs2 p0 p1 hT2 ⊢
        obtain ⟨w4, hw4⟩ : ∃ w4, w4 = w2 := ⟨_, rfl⟩
        rw [← hw4] at hW2 hs2 p0 p1 hT2 ⊢
        have hW4 := hW2
        have hs4 := hs2
        have p4 := p0
        have q4 := p1
        clear hW2 hs2 p0 p1 hw4
        have c4 := hW4.cell0
        have hrun4 := fun n => (hW4.drewN n).outer.look (t := 55) Try.underlying3 Try.underlying55 (zeroM _) ha
        rw [look_il, HQ.out] at hrun4
        simp only [Option.map_some, Option.getD_some] at hrun4
        have hrun5 := hrun4 1
        change (Instr.lookup _ _ _ _).run _ w4.drew = .ok _ w4.drew at hrun5
        go_wp2_with fail
        go_still_tail 9, (by kernel_rfl)
        change wpList _ _ _ _ _ w4.drew
        have hW5 := hW4.drewN 1
        clear c4 p4 q4 hrun4 hrun5
        change wpList _ _ _ _ _ (w4.drewN 1)
        obtain ⟨w6, hst6, hW6, hH6, hT6⟩ := hW5.off_run HQ.out hb
        have hst6' := hst6
        go_wp2_with fail
        go_roundw
        case rel => exact .inr (.inl ⟨rfl, hA.step_some HQ.out (hT2.drewN 1) hW6 hH6 hT6 (by omega) (fun _ => rfl)⟩)
        case measure => simp [intOf]
    · have hW := hA.web
      have hc0 : ∀ n, ((wr.alloc (.cells #[.int .i64 b, .int .i64 a] 60)).drewN n).cell? ⟨B, 0, none⟩ = some (.map (some bl)) := fun n => ((hW.block ((Below.refl _ wr).alloc (Nat.le_refl _) _)).drewN n).cell0
      have hrun := fun n => ((hW.block (w' := (wr.alloc (.cells #[.int .i64 b, .int .i64 a] 60))) ((Below.refl _ wr).alloc (Nat.le_refl _) _)).drewN n).outer.look (t := 55) Try.underlying3 Try.underlying55 (zeroM _) hb
      rw [look_il] at hrun
      cases hq : look b il' with
      | none =>
        rw [hq] at hrun
        simp only [Option.map_none, Option.getD_none] at hrun
        have HQ := Lib.hid hq
        clear hq
        go_wp2_with fail
        go_quiet (fail)
        have hW2 := (hW.block (w' := (wr.alloc (.cells #[.int .i64 b, .int .i64 a] 60))) ((Below.refl _ wr).alloc (Nat.le_refl _) _)).drewN nq
        have hs2 : wr.heap.size < ((wr.alloc (.cells #[.int .i64 b, .int .i64 a] 60)).drewN nq).heap.size := by simp [World.drewN]
        have p0 : ((wr.alloc (.cells #[.int .i64 b, .int .i64 a] 60)).drewN nq).cell? ⟨wr.heap.size, 0, none⟩ = some (.int .i64 b) := (World.cell?_alloc_at _ _ _ _ rfl).trans rfl
        have p1 : ((wr.alloc (.cells #[.int .i64 b, .int .i64 a] 60)).drewN nq).cell? ⟨wr.heap.size, 1, none⟩ = some (.int .i64 a) := (World.cell?_alloc_at _ _ _ _ rfl).trans rfl
        have hT2 : Turn (fun _ => False) wr ((wr.alloc (.cells #[.int .i64 b, .int .i64 a] 60)).drewN nq) := ⟨rfl, rfl, rfl, by simp [World.drewN], fun k hk _ => Below.heap_alloc _ _ _ hk⟩
        clear hrun hc0
        generalize (wr.alloc (.cells #[.int .i64 b, .int .i64 a] 60)).drewN nq = w2 at hW2 hs2 p0 p1 hT2 ⊢
        obtain ⟨w4, hst0, hW4, hT4⟩ := (hW2.drewN 1).fresh_run hb (Nat.lt_of_le_of_lt (by omega) hN)
        have hst : (Instr.mapUpdate 55 (.map (some bl)) (.int .i64 b) (.map (some w2.heap.size))).run Try.prog (w2.alloc (.map #[] 0)).drew = .ok () w4 := hst0
        change Web w4 B _ (ins b (w2.heap.size, []) il') S M last bl bp bs at hW4
        have c0 := hW2.cell0
        have c0a := (hW2.block ((Below.refl _ w2).alloc (Nat.le_refl _) (.map #[] 0))).cell0
        have p0a : (w2.alloc (.map #[] 0)).cell? ⟨wr.heap.size, 0, none⟩ = some (.int .i64 b) := ((Turn.alloc (fun _ => False) w2 (.map #[] 0)).cell hs2 (fun h => h)).trans p0
        go_wp2_with fail
        go_region
        have hs3 : wr.heap.size < (w2.drewN 1).heap.size := hs2
        have hT3 : Turn (fun _ => False) wr (w2.drewN 1) := hT2.drewN 1
        have p3 : (w2.drewN 1).cell? ⟨wr.heap.size, 0, none⟩ = some (.int .i64 b) := p0
        have q3 : (w2.drewN 1).cell? ⟨wr.heap.size, 1, none⟩ = some (.int .i64 a) := p1
        have hbx : wr.heap.size ≠ bl := fun e => by have := hW.lt (k := bl) (by simp [wb]); omega
        have p4 := (hT4.cell (i := 0) hs3 hbx).trans p3
        have q4 := (hT4.cell (i := 1) hs3 hbx).trans q3
        have hs4 := Nat.lt_of_lt_of_le hs3 hT4.size
        have hq4 : look b (ins b (w2.heap.size, ([] : List Int)) il') = some (w2.heap.size, []) := look_ins_same
        have c4 := hW4.cell0
        have hrun4 := fun n => (hW4.drewN n).outer.look (t := 55) Try.underlying3 Try.underlying55 (zeroM _) hb
        rw [look_il, hq4] at hrun4
        simp only [Option.map_some, Option.getD_some] at hrun4
        have hrun5 := hrun4 1
        change (Instr.lookup _ _ _ _).run _ w4.drew = .ok _ w4.drew at hrun5
        clear p3 q3 hs3 p0 p1 hs2 c0 c0a p0a hst hst0
        go_wp2_with fail
        go_still_tail 9, (by kernel_rfl)
        change wpList _ _ _ _ _ w4.drew
        have hW5 := hW4.drewN 1
        clear c4 p4 q4 hrun4 hrun5
        change wpList _ _ _ _ _ (w4.drewN 1)
        obtain ⟨w6, hst6, hW6, hH6, hT6⟩ := hW5.off_run hq4 ha
        have hst6' := hst6
        go_wp2_with fail
        go_roundw
        case rel => exact .inr (.inr ⟨rfl, hA.step_none (w3 := w2.drewN 1) HQ.out hT3 hT4 ((Turn.refl _ w4).drewN 1) hW6 hH6 hT6 (by omega) (fun _ => rfl)⟩)
        case measure => simp [intOf]
      | some q =>
        rw [hq] at hrun
        simp only [Option.map_some, Option.getD_some] at hrun
        have HQ := Lib.hid hq
        clear hq
        go_wp2_with fail
        go_quiet (fail)
        have hW2 := (hW.block (w' := (wr.alloc (.cells #[.int .i64 b, .int .i64 a] 60))) ((Below.refl _ wr).alloc (Nat.le_refl _) _)).drewN nq
        have hs2 : wr.heap.size < ((wr.alloc (.cells #[.int .i64 b, .int .i64 a] 60)).drewN nq).heap.size := by simp [World.drewN]
        have p0 : ((wr.alloc (.cells #[.int .i64 b, .int .i64 a] 60)).drewN nq).cell? ⟨wr.heap.size, 0, none⟩ = some (.int .i64 b) := (World.cell?_alloc_at _ _ _ _ rfl).trans rfl
        have p1 : ((wr.alloc (.cells #[.int .i64 b, .int .i64 a] 60)).drewN nq).cell? ⟨wr.heap.size, 1, none⟩ = some (.int .i64 a) := (World.cell?_alloc_at _ _ _ _ rfl).trans rfl
        have hT2 : Turn (fun _ => False) wr ((wr.alloc (.cells #[.int .i64 b, .int .i64 a] 60)).drewN nq) := ⟨rfl, rfl, rfl, by simp [World.drewN], fun k hk _ => Below.heap_alloc _ _ _ hk⟩
        clear hrun hc0
        generalize (wr.alloc (.cells #[.int .i64 b, .int .i64 a] 60)).drewN nq = w2 at hW2 hs2 p0 p1 hT2 ⊢
        obtain ⟨w4, hw4⟩ : ∃ w4, w4 = w2 := ⟨_, rfl⟩
        rw [← hw4] at hW2 hs2 p0 p1 hT2 ⊢
        have hW4 := hW2
        have hs4 := hs2
        have p4 := p0
        have q4 := p1
        clear hW2 hs2 p0 p1 hw4
        have c4 := hW4.cell0
        have hrun4 := fun n => (hW4.drewN n).outer.look (t := 55) Try.underlying3 Try.underlying55 (zeroM _) hb
        rw [look_il, HQ.out] at hrun4
        simp only [Option.map_some, Option.getD_some] at hrun4
        have hrun5 := hrun4 1
        change (Instr.lookup _ _ _ _).run _ w4.drew = .ok _ w4.drew at hrun5
        go_wp2_with fail
        go_still_tail 9, (by kernel_rfl)
        change wpList _ _ _ _ _ w4.drew
        have hW5 := hW4.drewN 1
        clear c4 p4 q4 hrun4 hrun5
        change wpList _ _ _ _ _ (w4.drewN 1)
        obtain ⟨w6, hst6, hW6, hH6, hT6⟩ := hW5.off_run HQ.out ha
        have hst6' := hst6
        go_wp2_with fail
        go_roundw
        case rel => exact .inr (.inr ⟨rfl, hA.step_some HQ.out (hT2.drewN 1) hW6 hH6 hT6 (by omega) (fun _ => rfl)⟩)
        case measure => simp [intOf]
    · have hW := hA.web
      have hW1 := hW.block (w' := wr.alloc (.cells #[.int .i64 (min a b), .int .i64 (max a b)] 60)) ((Below.refl _ wr).alloc (Nat.le_refl _) _)
      have p0 : (wr.alloc (.cells #[.int .i64 (min a b), .int .i64 (max a b)] 60)).cell? ⟨wr.heap.size, 0, none⟩ = some (.int .i64 (min a b)) := (World.cell?_alloc_at _ _ _ _ rfl).trans rfl
      have p1 : (wr.alloc (.cells #[.int .i64 (min a b), .int .i64 (max a b)] 60)).cell? ⟨wr.heap.size, 1, none⟩ = some (.int .i64 (max a b)) := (World.cell?_alloc_at _ _ _ _ rfl).trans rfl
      have hT2 : Turn (fun _ => False) wr (wr.alloc (.cells #[.int .i64 (min a b), .int .i64 (max a b)] 60)) := Turn.alloc _ _ _
      go_wp2_with fail
      generalize wr.alloc (.cells #[.int .i64 (min a b), .int .i64 (max a b)] 60) = w2 at hW1 p0 p1 hT2 ⊢
      have c1 := hW1.cell1
      go_still_tail 5, (by kernel_rfl)
      change wpList _ _ _ _ _ (w2.drewN 1)
      obtain ⟨w6, hst6, hW6, hT6⟩ := (hW1.drewN 1).pair_off_run (ha.min hb) (ha.max hb)
      go_wp2_with fail
      go_end0
      refine ⟨rfl, il', hW6, hA.adjs, hA.fresh, (hA.turn.comp (hT2.drewN 1) fun _ _ h => h.elim).comp hT6 fun k _ e => by subst e; simp [wb]⟩

end
end Go.Proofs.Ytjkdmdddgiomjaa
