/-
  match.fill: the term that a pattern is, under names. Conditions: the pattern lies as 'TrV' says and may be; the names lie as 'Binds' says.
-/
import Derived.Test.YtlhobpknflobgaaGreatDoorS19
import Derived.BigRegion
namespace Go.Proofs.YtlhobpknflobgaaGreatDoor
open Go.RowKit

/-- The parts behind k, with what came of those ahead. -/
def FSt (p : Tr) (l : List Bd) (k : Nat) (o : List Tr) : Prop := Tr.fil.fill p.l l = (Tr.fil.fill (p.l.drop k) l).map (o ++ ·)
theorem fst_next {p : Tr} {l : List Bd} {k : Nat} {o : List Tr} {y : Tr} (h : FSt p l k o) (hk : k < p.l.length) (hy : p.l[k].fil l = some y) : FSt p l (k + 1) (o ++ [y]) := by
  unfold FSt at h ⊢
  rw [h, fill_take hk, hy]
  cases Tr.fil.fill (p.l.drop (k + 1)) l with
  | none => rfl
  | some r => simp
theorem fst_none {p : Tr} {l : List Bd} {k : Nat} {o : List Tr} (h : FSt p l k o) (hk : k < p.l.length) (hy : p.l[k].fil l = none) : Tr.fil.fill p.l l = none := by
  unfold FSt at h
  rw [h, fill_take hk, hy]
  rfl
theorem fst_end {p : Tr} {l : List Bd} {k : Nat} {o : List Tr} (h : FSt p l k o) (hk : p.l.length ≤ k) : Tr.fil.fill p.l l = some o := by
  unfold FSt at h
  rw [h, List.drop_eq_nil_of_le hk]
  simp [Tr.fil.fill]
theorem TrV.move {P P' : Nat → Prop} {w w' : World} {x : Tr} {v : Value} (h : TrV P w x v) (hk : ∀ g, P g → g < w.heap.size → w'.heap[g]? = w.heap[g]?) (hP : ∀ g, P g → g < w.heap.size → P' g) : TrV P' w' x v := by
  have h1 : Kids (fun g => P' g ∧ P g) w v x.l := h.kids.mono fun g hg hl => ⟨hP g hg hl, hg⟩
  have h2 : Kids (fun g => P' g ∧ P g) w' v x.l := h1.keep fun g hg hl => hk g hg.2 hl
  exact ⟨h.wf, h2.mono fun g hg _ => hg.1⟩
theorem TrV.mono {P P' : Nat → Prop} {w : World} {x : Tr} {v : Value} (h : TrV P w x v) (hP : ∀ g, P g → g < w.heap.size → P' g) : TrV P' w x v := ⟨h.wf, h.kids.mono hP⟩
theorem setRow_ne {X : World} {g i : Nat} {cells : Array Value} (h : i ≠ g) : (X.setRow g cells).heap[i]? = X.heap[i]? := by
  simp [World.setRow, Array.getElem?_modify]
  omega
theorem grown_block {w w' : World} {r : Option Nat} (h : w.grownBy w' r) {g : Nat} (hg : g < w.heap.size) (hr : r ≠ some g) : w'.heap[g]? = w.heap[g]? := h.block g hg (fun e => hr e.symm)

def FilPost (F : Nat → Prop) (p : Tr) (l : List Bd) (w : World) (e : Ending) (w' : World) : Prop :=
  ∃ (y : Tr) (yv : Value) (er : Int), e = .returned (.tuple #[.agg #[.int .i8 y.k, .int .i64 y.n, .string y.s, .string y.t, yv], .int .i64 er]) ∧ TrV F w' y yv ∧ Below w.heap.size w w' ∧ (er = 0 ∧ p.fil l = some y ∨ er = 2 ∧ p.fil l = none)
def kindsV : Array Value := #[.int .i8 0, .int .i8 0, .int .i8 0, .int .i8 0, .int .i8 0, .int .i8 0, .int .i8 0, .int .i8 1, .int .i8 6, .int .i8 7, .int .i8 5]
def kinds0 : Array Value := #[.int .i8 0, .int .i8 0, .int .i8 0, .int .i8 0, .int .i8 0, .int .i8 0, .int .i8 0, .int .i8 0, .int .i8 0, .int .i8 0, .int .i8 0]
/-- Where what came so far may lie: what was there, and what came behind the block b, but the row itself. -/
def FlF (F : Nat → Prop) (S b : Nat) (sv : Value) (g : Nat) : Prop := ((F g ∧ g < S) ∨ b < g) ∧ sv.ownBlock ≠ some g
/-- A row of trees that the call makes, behind the block b; S: what was there. -/
structure TRow (F : Nat → Prop) (S b : Nat) (T : TypeId) (w : World) (sv : Value) (L : List (Tr × Value)) : Prop where
  own : w.ownsRow (b + 1) T 5 sv L.length (L.flatMap tcells)
  at_ : ∀ q ∈ L, TrV (FlF F S b sv) w q.1 q.2
theorem row_keep {w w' : World} {base : Nat} {e : TypeId} {size : Nat} {v : Value} {n : Nat} {xs : List Value} (h : w.ownsRow base e size v n xs) (hk : ∀ g, base ≤ g → g < w.heap.size → w'.heap[g]? = w.heap[g]?) : w'.ownsRow base e size v n xs := by
  obtain ⟨h1, h2⟩ := h
  refine ⟨h1, ?_⟩
  rcases h2 with h2 | ⟨g, cap, cur, hv, hg, hh, r⟩
  · exact .inl h2
  · exact .inr ⟨g, cap, cur, hv, hg, (hk g hg (Array.getElem?_eq_some_iff.1 hh).1).trans hh, r⟩
theorem TRow.nil (F : Nat → Prop) (S b : Nat) (T : TypeId) (w : World) : TRow F S b T w (.slice none 0 0) [] := ⟨World.ownsRow_nil .., fun q hq => by simp at hq⟩
theorem TRow.keep {F : Nat → Prop} {S b : Nat} {T : TypeId} {w w' : World} {sv : Value} {L : List (Tr × Value)} (h : TRow F S b T w sv L) (hk : ∀ g, g < S ∨ b < g → g < w.heap.size → w'.heap[g]? = w.heap[g]?) : TRow F S b T w' sv L :=
  ⟨row_keep h.own fun g hg hl => hk g (.inr (by omega)) hl, fun q hq => (h.at_ q hq).move (fun g hg hl => hk g (hg.1.elim (fun h => .inl h.2) .inr) hl) fun g hg _ => hg⟩
theorem TRow.below {F : Nat → Prop} {S b : Nat} {T : TypeId} {w w' : World} {sv : Value} {L : List (Tr × Value)} (h : TRow F S b T w sv L) (hb : Below w.heap.size w w') : TRow F S b T w' sv L := h.keep fun g _ hl => hb.block g hl
theorem TRow.push {F : Nat → Prop} {S b : Nat} {T : TypeId} {w w' : World} {sv v' : Value} {L : List (Tr × Value)} {y : Tr} {yv : Value} (h : TRow F S b T w sv L)
    (hy : TrV (fun g => ((F g ∧ g < S) ∨ b < g) ∧ sv.ownBlock ≠ some g) w y yv) (hown : w'.ownsRow (b + 1) T 5 v' (L.length + 1) (L.flatMap tcells ++ tcells (y, yv))) (hg : w.grownBy w' sv.ownBlock) (hv : v'.ownBlock = sv.ownBlock ∨ ∀ j, v'.ownBlock = some j → w.heap.size ≤ j) :
    TRow F S b T w' v' (L ++ [(y, yv)]) := by
  refine ⟨by rw [List.length_append, List.flatMap_append]; simpa using hown, fun q hq => ?_⟩
  have hq' : TrV (FlF F S b sv) w q.1 q.2 := by
    rcases List.mem_append.1 hq with hq | hq
    · exact h.at_ q hq
    · simp only [List.mem_singleton] at hq; subst hq; exact hy
  refine hq'.move (fun g hg' hl => hg.block g hl fun e => hg'.2 e.symm) fun g hg' hl => ⟨hg'.1, fun e => ?_⟩
  rcases hv with hv | hv
  · exact hg'.2 (hv ▸ e)
  · have := hv g e; omega
theorem TRow.kids {F : Nat → Prop} {S b : Nat} {T : TypeId} {w : World} {sv : Value} {L : List (Tr × Value)} (h : TRow F S b T w sv L) (hF : ∀ k, S ≤ k → F k) (hS : S ≤ b + 1) (hl : L.length ≤ BL) : Kids F w sv (L.map (·.1)) :=
  kids_row h.own (fun k hk => hF k (by omega)) (fun q hq => (h.at_ q hq).mono fun g hg _ => hg.1.elim (fun h => h.1) fun h => hF g (by omega)) hl
theorem TRow.slice {F : Nat → Prop} {S b : Nat} {T : TypeId} {w : World} {sv : Value} {L : List (Tr × Value)} (h : TRow F S b T w sv L) : ∃ q c, sv = .slice q L.length c := row_shape h.own
theorem TRow.blk {F : Nat → Prop} {S b : Nat} {T : TypeId} {w : World} {sv : Value} {L : List (Tr × Value)} (h : TRow F S b T w sv L) : ∀ j, sv.ownBlock = some j → b + 1 ≤ j ∧ j < w.heap.size := by
  intro j hj
  have h1 := row_base h.own j hj
  refine ⟨h1, ?_⟩
  rcases h.own.2 with ⟨rfl, _⟩ | ⟨g, cap, cur, rfl, hg, hh, _⟩
  · cases hj
  · cases hj; exact (Array.getElem?_eq_some_iff.1 hh).1
theorem five_set {w : World} {b : Nat} {v0 v1 v2 v3 v4 u : Value} {T : TypeId} (h : w.heap[b]? = some (.cells #[v0, v1, v2, v3, v4] T (0, 0))) : (w.setCell ⟨b, 4, none⟩ u).heap[b]? = some (.cells #[v0, v1, v2, v3, u] T (0, 0)) := by
  simp only [World.setCell, Array.getElem?_modify, if_true, h]; rfl
/-- What the round knows; b: the term's own block. -/
def FlRel (F : Nat → Prop) (p : Tr) (l : List Bd) (S b : Nat) (w7 : World) (i : Value) (wr : World) : Prop :=
  ∃ k : Nat, k ≤ p.l.length ∧ i = .int .i64 k ∧ ∃ (sv : Value) (L : List (Tr × Value)), wr.heap[b]? = some (.cells #[.int .i8 (kindT p.k), .int .i64 p.n, .string p.s, .string ⟨#[]⟩, sv] 29 (0, 0)) ∧
    TRow F S b 29 wr sv L ∧ Below b w7 wr ∧ FSt p l k (L.map (·.1)) ∧ L.length = k
theorem kindT_wf (k : Int) : (Lit.int .i8 (kindT k)).wf = true := by
  unfold kindT
  split
  · rfl
  split
  · rfl
  split
  · rfl
  split <;> rfl
theorem fil_node {p : Tr} (h : NodeWf p) (l : List Tr) : NodeWf (.mk (kindT p.k) p.n p.s ⟨#[]⟩ l) := ⟨kindT_wf _, h.n, h.s, Nat.zero_le _⟩
theorem fil_kid {p : Tr} (h : p.pat = true) : ∀ y ∈ p.l, y.pat = true := by
  intro y hy
  rcases pat_kinds h with ⟨_, _, hl⟩ | ⟨_, _, hl, _⟩ | ⟨_, _, hl, _⟩ | ⟨_, _, _, hl⟩ | ⟨_, _, _, hp⟩
  iterate 4 (rw [hl] at hy; simp at hy)
  exact patl_mem hp y hy
theorem kinds_at {p : Tr} (h : p.pat = true) (hk : p.k ≠ 5) : 0 ≤ p.k ∧ p.k < 11 ∧ kindsV[p.k.toNat]? = some (.int .i8 (kindT p.k)) := by
  rcases pat_kind h with hk | hk | hk | hk | hk | hk
  · omega
  all_goals rw [hk]; exact ⟨by omega, by omega, rfl⟩

end Go.Proofs.YtlhobpknflobgaaGreatDoor
