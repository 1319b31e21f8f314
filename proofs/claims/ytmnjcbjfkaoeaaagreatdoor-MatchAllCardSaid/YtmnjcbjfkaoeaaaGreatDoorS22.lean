/-
  match.fill: the term that a pattern is, under names. Conditions: the pattern lies as 'TrV' says and may be; the names lie as 'Binds' says.
-/
import Derived.Test.YtmnjcbjfkaoeaaaGreatDoorS19
import Derived.BigRegion
namespace Go.Proofs.YtmnjcbjfkaoeaaaGreatDoor
open Go.RowKit

/-- The parts behind k, with what came of those ahead. -/
def FSt (p : Tr) (l : List Bd) (k : Nat) (o : List Tr) : Prop := Tr.fil.fill p.l l = (Tr.fil.fill (p.l.drop k) l).map (o ++ ·)
theorem fst_next {p : Tr} {l : List Bd} {k : Nat} {o : List Tr} {y : Tr} (h : FSt p l k o) (hk : k < p.l.length) (hy : p.l[k].fil l = some y) : FSt p l (k + 1) (o ++ [y]) := by
  unfold FSt at h ⊢
  rw [h, fill_take hk, hy]
  cases Tr.fil.fill (p.l.drop (k + 1)) l with
  | none => rfl
  | some r => simp
theorem fst_none {p : Tr} {l : List Bd} {k : Nat} {o : List Tr} (h : FSt p l k o) (hk : k < p.l.length) (hy : p.l[k].fil l = none) : Tr.fil.fill p.l l = none := by
  unfold FSt at h
  rw [h, fill_take hk, hy]
  rfl
theorem fst_end {p : Tr} {l : List Bd} {k : Nat} {o : List Tr} (h : FSt p l k o) (hk : p.l.length ≤ k) : Tr.fil.fill p.l l = some o := by
  unfold FSt at h
  rw [h, List.drop_eq_nil_of_le hk]
  simp [Tr.fil.fill]
theorem TrV.move {P P' : Nat → Prop} {w w' : World} {x : Tr} {v : Value} (h : TrV P w x v) (hk : ∀ g, P g → g < w.heap.size → w'.heap[g]? = w.heap[g]?) (hP : ∀ g, P g → g < w.heap.size → P' g) : TrV P' w' x v := by
  have h1 : Kids (fun g => P' g ∧ P g) w v x.l := h.kids.mono fun g hg hl => ⟨hP g hg hl, hg⟩
  have h2 : Kids (fun g => P' g ∧ P g) w' v x.l := h1.keep fun g hg hl => hk g hg.2 hl
  exact ⟨h.wf, h2.mono fun g hg _ => hg.1⟩
theorem TrV.mono {P P' : Nat → Prop} {w : World} {x : Tr} {v : Value} (h : TrV P w x v) (hP : ∀ g, P g → g < w.heap.size → P' g) : TrV P' w x v := ⟨h.wf, h.kids.mono hP⟩
theorem setRow_ne {X : World} {g i : Nat} {cells : Array Value} (h : i ≠ g) : (X.setRow g cells).heap[i]? = X.heap[i]? := by
  simp [World.setRow, Array.getElem?_modify]
  omega
theorem grown_block {w w' : World} {r : Option Nat} (h : w.grownBy w' r) {g : Nat} (hg : g < w.heap.size) (hr : r ≠ some g) : w'.heap[g]? = w.heap[g]? := h.block g hg (fun e => hr e.symm)

def FilPost (F : Nat → Prop) (p : Tr) (l : List Bd) (w : World) (e : Ending) (w' : World) : Prop :=
  ∃ (y : Tr) (yv : Value) (er : Int), e = .returned (.tuple #[.agg #[.int .i8 y.k, .int .i64 y.n, .string y.s, .string y.t, yv], .int .i64 er]) ∧ TrV F w' y yv ∧ Below w.heap.size w w' ∧ (er = 0 ∧ p.fil l = some y ∨ er = 2 ∧ p.fil l = none)
def FilSays (p : Tr) : Prop := ∀ (F : Nat → Prop) (l : List Bd) (w : World) (pv v : Value), (∀ k, w.heap.size ≤ k → F k) → TrV F w p pv → Binds F w v l → p.pat = true → p.nn ≤ 1048576 →
    Calls Tryz.prog 71 #[.agg #[.int .i8 p.k, .int .i64 p.n, .string p.s, .string p.t, pv], v] w (FilPost F p l w)
def kindsV : Array Value := #[.int .i8 0, .int .i8 0, .int .i8 0, .int .i8 0, .int .i8 0, .int .i8 0, .int .i8 0, .int .i8 1, .int .i8 6, .int .i8 7, .int .i8 5]
def kinds0 : Array Value := #[.int .i8 0, .int .i8 0, .int .i8 0, .int .i8 0, .int .i8 0, .int .i8 0, .int .i8 0, .int .i8 0, .int .i8 0, .int .i8 0, .int .i8 0]
theorem size86 : (Tryz.prog.info? 125).map (·.size) = some kindsV.size := by kernel_rfl

/-- Where what came so far may lie: what was there, and what came behind the block b, but the row itself. -/
def FlF (F : Nat → Prop) (S b : Nat) (sv : Value) (g : Nat) : Prop := ((F g ∧ g < S) ∨ b < g) ∧ sv.ownBlock ≠ some g
/-- A row of trees that the call makes, behind the block b; S: what was there. -/
structure TRow (F : Nat → Prop) (S b : Nat) (T : TypeId) (w : World) (sv : Value) (L : List (Tr × Value)) : Prop where
  own : w.ownsRow (b + 1) T 5 sv L.length (L.flatMap tcells)
  at_ : ∀ q ∈ L, TrV (FlF F S b sv) w q.1 q.2
theorem row_keep {w w' : World} {base : Nat} {e : TypeId} {size : Nat} {v : Value} {n : Nat} {xs : List Value} (h : w.ownsRow base e size v n xs) (hk : ∀ g, base ≤ g → g < w.heap.size → w'.heap[g]? = w.heap[g]?) : w'.ownsRow base e size v n xs := by
  obtain ⟨h1, h2⟩ := h
  refine ⟨h1, ?_⟩
  rcases h2 with h2 | ⟨g, cap, cur, hv, hg, hh, r⟩
  · exact .inl h2
  · exact .inr ⟨g, cap, cur, hv, hg, (hk g hg (Array.getElem?_eq_some_iff.1 hh).1).trans hh, r⟩
theorem TRow.nil (F : Nat → Prop) (S b : Nat) (T : TypeId) (w : World) : TRow F S b T w (.slice none 0 0) [] := ⟨World.ownsRow_nil .., fun q hq => by simp at hq⟩
theorem TRow.keep {F : Nat → Prop} {S b : Nat} {T : TypeId} {w w' : World} {sv : Value} {L : List (Tr × Value)} (h : TRow F S b T w sv L) (hk : ∀ g, g < S ∨ b < g → g < w.heap.size → w'.heap[g]? = w.heap[g]?) : TRow F S b T w' sv L :=
  ⟨row_keep h.own fun g hg hl => hk g (.inr (by omega)) hl, fun q hq => (h.at_ q hq).move (fun g hg hl => hk g (hg.1.elim (fun h => .inl h.2) .inr) hl) fun g hg _ => hg⟩
theorem TRow.below {F : Nat → Prop} {S b : Nat} {T : TypeId} {w w' : World} {sv : Value} {L : List (Tr × Value)} (h : TRow F S b T w sv L) (hb : Below w.heap.size w w') : TRow F S b T w' sv L := h.keep fun g _ hl => hb.block g hl
theorem TRow.push {F : Nat → Prop} {S b : Nat} {T : TypeId} {w w' : World} {sv v' : Value} {L : List (Tr × Value)} {y : Tr} {yv : Value} (h : TRow F S b T w sv L)
    (hy : TrV (fun g => ((F g ∧ g < S) ∨ b < g) ∧ sv.ownBlock ≠ some g) w y yv) (hown : w'.ownsRow (b + 1) T 5 v' (L.length + 1) (L.flatMap tcells ++ tcells (y, yv))) (hg : w.grownBy w' sv.ownBlock) (hv : v'.ownBlock = sv.ownBlock ∨ ∀ j, v'.ownBlock = some j → w.heap.size ≤ j) :
    TRow F S b T w' v' (L ++ [(y, yv)]) := by
  refine ⟨by rw [List.length_append, List.flatMap_append]; simpa using hown, fun q hq => ?_⟩
  have hq' : TrV (FlF F S b sv) w q.1 q.2 := by
    rcases List.mem_append.1 hq with hq | hq
    · exact h.at_ q hq
    · simp only [List.mem_singleton] at hq; subst hq; exact hy
  refine hq'.move (fun g hg' hl => hg.block g hl fun e => hg'.2 e.symm) fun g hg' hl => ⟨hg'.1, fun e => ?_⟩
  rcases hv with hv | hv
  · exact hg'.2 (hv ▸ e)
  · have := hv g e; omega
theorem TRow.kids {F : Nat → Prop} {S b : Nat} {T : TypeId} {w : World} {sv : Value} {L : List (Tr × Value)} (h : TRow F S b T w sv L) (hF : ∀ k, S ≤ k → F k) (hS : S ≤ b + 1) (hl : L.length ≤ BL) : Kids F w sv (L.map (·.1)) :=
  kids_row h.own (fun k hk => hF k (by omega)) (fun q hq => (h.at_ q hq).mono fun g hg _ => hg.1.elim (fun h => h.1) fun h => hF g (by omega)) hl
theorem TRow.slice {F : Nat → Prop} {S b : Nat} {T : TypeId} {w : World} {sv : Value} {L : List (Tr × Value)} (h : TRow F S b T w sv L) : ∃ q c, sv = .slice q L.length c := row_shape h.own
theorem TRow.blk {F : Nat → Prop} {S b : Nat} {T : TypeId} {w : World} {sv : Value} {L : List (Tr × Value)} (h : TRow F S b T w sv L) : ∀ j, sv.ownBlock = some j → b + 1 ≤ j ∧ j < w.heap.size := by
  intro j hj
  have h1 := row_base h.own j hj
  refine ⟨h1, ?_⟩
  rcases h.own.2 with ⟨rfl, _⟩ | ⟨g, cap, cur, rfl, hg, hh, _⟩
  · cases hj
  · cases hj; exact (Array.getElem?_eq_some_iff.1 hh).1
theorem five_set {w : World} {b : Nat} {v0 v1 v2 v3 v4 u : Value} {T : TypeId} (h : w.heap[b]? = some (.cells #[v0, v1, v2, v3, v4] T (0, 0))) : (w.setCell ⟨b, 4, none⟩ u).heap[b]? = some (.cells #[v0, v1, v2, v3, u] T (0, 0)) := by
  simp only [World.setCell, Array.getElem?_modify, if_true, h]; rfl
/-- What the round knows; b: the term's own block. -/
def FlRel (F : Nat → Prop) (p : Tr) (l : List Bd) (S b : Nat) (w7 : World) (i : Value) (wr : World) : Prop :=
  ∃ k : Nat, k ≤ p.l.length ∧ i = .int .i64 k ∧ ∃ (sv : Value) (L : List (Tr × Value)), wr.heap[b]? = some (.cells #[.int .i8 (kindT p.k), .int .i64 p.n, .string p.s, .string ⟨#[]⟩, sv] 37 (0, 0)) ∧
    TRow F S b 37 wr sv L ∧ Below b w7 wr ∧ FSt p l k (L.map (·.1)) ∧ L.length = k
theorem kindT_wf (k : Int) : (Lit.int .i8 (kindT k)).wf = true := by
  unfold kindT
  split
  · rfl
  split
  · rfl
  split
  · rfl
  split <;> rfl
theorem fil_node {p : Tr} (h : NodeWf p) (l : List Tr) : NodeWf (.mk (kindT p.k) p.n p.s ⟨#[]⟩ l) := ⟨kindT_wf _, h.n, h.s, Nat.zero_le _⟩
theorem fil_kid {p : Tr} (h : p.pat = true) : ∀ y ∈ p.l, y.pat = true := by
  intro y hy
  rcases pat_kinds h with ⟨_, _, hl⟩ | ⟨_, _, hl, _⟩ | ⟨_, _, hl, _⟩ | ⟨_, _, _, hl⟩ | ⟨_, _, _, hp⟩
  iterate 4 (rw [hl] at hy; simp at hy)
  exact patl_mem hp y hy
theorem kinds_at {p : Tr} (h : p.pat = true) (hk : p.k ≠ 5) : 0 ≤ p.k ∧ p.k < 11 ∧ kindsV[p.k.toNat]? = some (.int .i8 (kindT p.k)) := by
  rcases pat_kind h with hk | hk | hk | hk | hk | hk
  · omega
  all_goals rw [hk]; exact ⟨by omega, by omega, rfl⟩

set_option maxHeartbeats 8000000 in
set_option maxRecDepth 100000 in
theorem mfill_any (p : Tr) : FilSays p := by
  induction p using Tr.ind with
  | h p ih =>
    intro F l w pv v hF hp hl hpat hnn
    have hlen : p.l.length ≤ 1048576 := by
      have h1 : ∀ L : List Tr, L.length ≤ Tr.nn.nnl L := by
        intro L
        induction L with
        | nil => exact Nat.le_refl _
        | cons a r ihr => rw [Tr.nn.nnl, List.length_cons]; have := nn_pos a; omega
      have := h1 p.l
      rw [nn_eq] at hnn
      omega
    obtain ⟨p1, c1, rfl⟩ := hp.kids.slice
    obtain ⟨pl, cl, rfl⟩ := hl.slice
    have hp0 : TrV (fun g => F g ∧ g < w.heap.size) w p (.slice p1 p.l.length c1) := hp.mono fun g hg h => ⟨hg, h⟩
    have hl0 : Binds (fun g => F g ∧ g < w.heap.size) w (.slice pl l.length cl) l := hl.mono fun g hg h => ⟨hg, h⟩
    obtain ⟨i0, hi, hi0, hi1, hi2⟩ := info_parts infoTerm
    have IH := Lib.hid ih
    have HF := Lib.hid hF
    have HP := Lib.hid hp
    have HL := Lib.hid hl
    have HP0 := Lib.hid hp0
    have HL0 := Lib.hid hl0
    have HPAT := Lib.hid hpat
    have HNN := Lib.hid hnn
    clear ih hF hp hl hp0 hl0 hpat hnn
    go_enter Tryz.func71, Tryz.ntmps71
    go_upto_region 1 with fail
    obtain ⟨n1, n2, hb1, hz1'⟩ := two_new w (.cells #[.int .i8 p.k, .int .i64 p.n, .string p.s, .string p.t, .slice p1 p.l.length c1] 31) (.cells #[.int .i8 0, .int .i64 0, .string ⟨#[]⟩, .string ⟨#[]⟩, .slice none 0 0] 37)
    generalize (w.alloc (.cells #[.int .i8 p.k, .int .i64 p.n, .string p.s, .string p.t, .slice p1 p.l.length c1] 31)).alloc (.cells #[.int .i8 0, .int .i64 0, .string ⟨#[]⟩, .string ⟨#[]⟩, .slice none 0 0] 37) = w1 at n1 n2 hb1 hz1' ⊢
    have HZ1 := Lib.hid hz1'
    clear hz1'
    have hn0 : (w1.alloc (.cells #[.int .i8 0, .int .i8 0, .int .i8 0, .int .i8 0, .int .i8 0, .int .i8 0, .int .i8 0, .int .i8 0, .int .i8 0, .int .i8 0, .int .i8 0] 125)).heap[w1.heap.size]? = some (.cells kinds0 125 (0, 0)) := heap_new w1 _
    have hb2 := below_setRow (cells := kindsV) (alloc_below w1 (.cells #[.int .i8 0, .int .i8 0, .int .i8 0, .int .i8 0, .int .i8 0, .int .i8 0, .int .i8 0, .int .i8 0, .int .i8 0, .int .i8 0, .int .i8 0] 125)) (Nat.le_refl _)
    have hk2 := setRow_heap' (cells := kindsV) hn0
    have hz2' : ((w1.alloc (.cells #[.int .i8 0, .int .i8 0, .int .i8 0, .int .i8 0, .int .i8 0, .int .i8 0, .int .i8 0, .int .i8 0, .int .i8 0, .int .i8 0, .int .i8 0] 125)).setRow w1.heap.size kindsV).heap.size = w1.heap.size + 1 := by simp [World.setRow]
    have HZ2 := Lib.hid hz2'
    clear hz2'
    go_upto_region 2 with (first
      | (refine wpList_build rfl 125 _ rfl (by kernel_rfl) ?_)
      | (refine wpList_store_row rfl 125 _ _ rfl w1.heap.size kindsV (by kernel_rfl) (by kernel_rfl) 125 kinds0 hn0 size86 (by kernel_rfl) (by kernel_rfl) ?_))
    generalize (w1.alloc (.cells #[.int .i8 0, .int .i8 0, .int .i8 0, .int .i8 0, .int .i8 0, .int .i8 0, .int .i8 0, .int .i8 0, .int .i8 0, .int .i8 0, .int .i8 0] 125)).setRow w1.heap.size kindsV = w2 at hb2 hk2 HZ2 ⊢
    clear hn0
    generalize (Program.built _ _ _).getD #[] = ar
    have hbw2 := hb1.trans (hb2.mono hb1.size)
    have hz2 := (hb2.block _ (show w.heap.size + 1 < w1.heap.size by have := HZ1.out; omega)).trans n2
    obtain ⟨a0, a1, a2, a3, a4⟩ := node_heap ((hb2.block _ (show w.heap.size < w1.heap.size by have := HZ1.out; omega)).trans n1)
    simp only [Nat.zero_add] at a1 a2 a3 a4
    have hlt2 : w.heap.size + 1 < w2.heap.size := by have := HZ1.out; have := HZ2.out; omega
    have HLT2 := Lib.hid hlt2
    clear n1 n2 hlt2
    by_cases hk5 : p.k = 5
    · have cF := find_any (s := p.s) (HL0.out.under hbw2)
      unfold FindSays at cF
      have hfil : p.fil l = bfind l p.s := by rw [fil_eq, if_pos hk5]
      have HFI := Lib.hid hfil
      rw [hk5] at a0
      clear hfil hk5 hk2
      cases hf : bfind l p.s with
      | none =>
        rw [hf] at cF HFI
        simp only [Option.isSome_none, Option.getD_none] at cF
        clear hf
        go_upto_region 4 with (first
          | (go_at_call 127; refine cF.mono ?_; rintro e w5 ⟨y, yv, rfl, hy5, rfl, hb5⟩; obtain ⟨p5, c5, rfl⟩ := hy5.kids.slice; have hn5 : (w5.alloc (.cells #[.int .i8 0, .int .i64 0, .string ⟨#[]⟩, .string ⟨#[]⟩, .slice none 0 0] 37)).heap[w5.heap.size]? = some (.cells (cells5 zeroT (.slice none 0 0)) 37 (0, 0)) := heap_new w5 _)
          | (refine wpList_store_row rfl 37 _ _ rfl w5.heap.size (cells5 zeroT (.slice p5 zeroT.l.length c5)) (by kernel_rfl) (by kernel_rfl) 37 (cells5 zeroT (.slice none 0 0)) hn5 (size28 _ _) (by kernel_rfl) (by kernel_rfl) ?_))
        have hr6 := setRow_heap' (cells := cells5 zeroT (.slice p5 zeroT.l.length c5)) hn5
        have hB6 := below_setRow (g := w5.heap.size) (cells := cells5 zeroT (.slice p5 zeroT.l.length c5)) (hb5.trans ((alloc_below w5 (.cells #[.int .i8 0, .int .i64 0, .string ⟨#[]⟩, .string ⟨#[]⟩, .slice none 0 0] 37)).mono hb5.size)) hb5.size
        have hB56 := below_setRow (g := w5.heap.size) (cells := cells5 zeroT (.slice p5 zeroT.l.length c5)) (alloc_below w5 (.cells #[.int .i8 0, .int .i64 0, .string ⟨#[]⟩, .string ⟨#[]⟩, .slice none 0 0] 37)) (Nat.le_refl _)
        generalize (w5.alloc (.cells #[.int .i8 0, .int .i64 0, .string ⟨#[]⟩, .string ⟨#[]⟩, .slice none 0 0] 37)).setRow w5.heap.size (cells5 zeroT (.slice p5 zeroT.l.length c5)) = w6 at hr6 hB6 hB56 ⊢
        have hz6 : w6.heap[w.heap.size + 1]? = some (.cells (cells5 zeroT (.slice none 0 0)) 37 (0, 0)) := (hB6.block _ HLT2.out).trans hz2
        have hr7 := setRow_heap' (cells := cells5 zeroT (.slice p5 zeroT.l.length c5)) hz6
        have hBw6 := hbw2.trans (hB6.mono hbw2.size)
        have hB7 := below_setRow (g := w.heap.size + 1) (cells := cells5 zeroT (.slice p5 zeroT.l.length c5)) hBw6 (by omega)
        have hy6 := hy5.below hB56
        have hlt6 : w.heap.size + 1 ≤ w6.heap.size := by have := HLT2.out; have := hB6.size; omega
        have HY : Hid (TrV F (w6.setRow (w.heap.size + 1) (cells5 zeroT (.slice p5 zeroT.l.length c5))) zeroT (.slice p5 zeroT.l.length c5)) := by
          unfold Hid
          exact hy6.move (fun g hg _ => setRow_ne (by omega)) (fun g hg _ => hg.1)
        clear hy5 hy6 hz2 hn5 hlt6
        obtain ⟨d0, d1, d2, d3, d4⟩ := node_heap (x := zeroT) hr6
        simp only [Nat.zero_add] at d1 d2 d3 d4
        go_wp2_with (refine wpList_store_row rfl 37 _ _ rfl (w.heap.size + 1) (cells5 zeroT (.slice p5 zeroT.l.length c5)) (by kernel_rfl) (by kernel_rfl) 37 (cells5 zeroT (.slice none 0 0)) hz6 (size28 _ _) (by kernel_rfl) (by kernel_rfl) ?_)
        refine bodyPost_ret (v := .tuple #[.agg (cells5 zeroT (.slice p5 zeroT.l.length c5)), .int .i64 2]) (results_term Tryz.results71 _ _ _ _ _ rfl hr7) rfl ⟨zeroT, _, 2, rfl, HY.out, hB7, .inr ⟨rfl, HFI.out⟩⟩
      | some y0 =>
        rw [hf] at cF HFI
        simp only [Option.isSome_some, Option.getD_some] at cF
        clear hf
        go_upto_region 4 with (first
          | (go_at_call 127; refine cF.mono ?_; rintro e w5 ⟨y, yv, rfl, hy5, rfl, hb5⟩; obtain ⟨p5, c5, rfl⟩ := hy5.kids.slice; have hn5 : (w5.alloc (.cells #[.int .i8 0, .int .i64 0, .string ⟨#[]⟩, .string ⟨#[]⟩, .slice none 0 0] 37)).heap[w5.heap.size]? = some (.cells (cells5 zeroT (.slice none 0 0)) 37 (0, 0)) := heap_new w5 _)
          | (refine wpList_store_row rfl 37 _ _ rfl w5.heap.size (cells5 y (.slice p5 y.l.length c5)) (by kernel_rfl) (by kernel_rfl) 37 (cells5 zeroT (.slice none 0 0)) hn5 (size28 _ _) (by kernel_rfl) (by kernel_rfl) ?_))
        have hr6 := setRow_heap' (cells := cells5 y (.slice p5 y.l.length c5)) hn5
        have hB6 := below_setRow (g := w5.heap.size) (cells := cells5 y (.slice p5 y.l.length c5)) (hb5.trans ((alloc_below w5 (.cells #[.int .i8 0, .int .i64 0, .string ⟨#[]⟩, .string ⟨#[]⟩, .slice none 0 0] 37)).mono hb5.size)) hb5.size
        have hB56 := below_setRow (g := w5.heap.size) (cells := cells5 y (.slice p5 y.l.length c5)) (alloc_below w5 (.cells #[.int .i8 0, .int .i64 0, .string ⟨#[]⟩, .string ⟨#[]⟩, .slice none 0 0] 37)) (Nat.le_refl _)
        generalize (w5.alloc (.cells #[.int .i8 0, .int .i64 0, .string ⟨#[]⟩, .string ⟨#[]⟩, .slice none 0 0] 37)).setRow w5.heap.size (cells5 y (.slice p5 y.l.length c5)) = w6 at hr6 hB6 hB56 ⊢
        have hz6 : w6.heap[w.heap.size + 1]? = some (.cells (cells5 zeroT (.slice none 0 0)) 37 (0, 0)) := (hB6.block _ HLT2.out).trans hz2
        have hr7 := setRow_heap' (cells := cells5 y (.slice p5 y.l.length c5)) hz6
        have hBw6 := hbw2.trans (hB6.mono hbw2.size)
        have hB7 := below_setRow (g := w.heap.size + 1) (cells := cells5 y (.slice p5 y.l.length c5)) hBw6 (by omega)
        have hy6 := hy5.below hB56
        have hlt6 : w.heap.size + 1 ≤ w6.heap.size := by have := HLT2.out; have := hB6.size; omega
        have HY : Hid (TrV F (w6.setRow (w.heap.size + 1) (cells5 y (.slice p5 y.l.length c5))) y (.slice p5 y.l.length c5)) := by
          unfold Hid
          exact hy6.move (fun g hg _ => setRow_ne (by omega)) (fun g hg _ => hg.1)
        clear hy5 hy6 hz2 hn5 hlt6
        obtain ⟨d0, d1, d2, d3, d4⟩ := node_heap (x := y) hr6
        simp only [Nat.zero_add] at d1 d2 d3 d4
        go_wp2_with (refine wpList_store_row rfl 37 _ _ rfl (w.heap.size + 1) (cells5 y (.slice p5 y.l.length c5)) (by kernel_rfl) (by kernel_rfl) 37 (cells5 zeroT (.slice none 0 0)) hz6 (size28 _ _) (by kernel_rfl) (by kernel_rfl) ?_)
        refine bodyPost_ret (v := .tuple #[.agg (cells5 y (.slice p5 y.l.length c5)), .int .i64 0]) (results_term Tryz.results71 _ _ _ _ _ rfl hr7) rfl ⟨y, _, 0, rfl, HY.out, hB7, .inl ⟨rfl, HFI.out⟩⟩
    · obtain ⟨k1, k2, k3⟩ := kinds_at HPAT.out hk5
      have dk : (p.k == 5) = false := by simpa using hk5
      have hkc := (arr_cell hk2).trans k3
      clear k3 hk2
      have hfil : p.fil l = (Tr.fil.fill p.l l).map fun r => .mk (kindT p.k) p.n p.s ⟨#[]⟩ r := by rw [fil_eq, if_neg hk5]
      have HFI := Lib.hid hfil
      clear hfil hk5
      go_upto_region 7 with fail
      have hb3 := alloc_below w2 (.cells #[.int .i8 0, .int .i64 0, .string ⟨#[]⟩, .string ⟨#[]⟩, .slice none 0 0] 37)
      have f3 : ∀ g o u, w2.cell? ⟨g, o, none⟩ = some u → (w2.alloc (.cells #[.int .i8 0, .int .i64 0, .string ⟨#[]⟩, .string ⟨#[]⟩, .slice none 0 0] 37)).drew.cell? ⟨g, o, none⟩ = some u := fun g o u h => (hb3.cell (p := ⟨g, o, none⟩) (cell_block h)).trans h
      have x0 := f3 _ _ _ a0
      have x1 := f3 _ _ _ a1
      have x2 := f3 _ _ _ a2
      have x3 := f3 _ _ _ hkc
      clear f3
      go_region
      have hg7 : (w2.alloc (.cells #[.int .i8 (kindT p.k), .int .i64 p.n, .string p.s, .string ⟨#[]⟩, .slice none 0 0] 37)).drew.heap[w2.heap.size]? = some (.cells #[.int .i8 (kindT p.k), .int .i64 p.n, .string p.s, .string ⟨#[]⟩, .slice none 0 0] 37 (0, 0)) := heap_new w2 _
      have hb7 : Below w2.heap.size w2 (w2.alloc (.cells #[.int .i8 (kindT p.k), .int .i64 p.n, .string p.s, .string ⟨#[]⟩, .slice none 0 0] 37)).drew := below_drewN (alloc_below w2 _) 1
      generalize (w2.alloc (.cells #[.int .i8 (kindT p.k), .int .i64 p.n, .string p.s, .string ⟨#[]⟩, .slice none 0 0] 37)).drew = w7 at hg7 hb7 ⊢
      have a47 := (hb7.cell (p := ⟨w.heap.size, 4, none⟩) (cell_block a4)).trans a4
      clear a0 a1 a2 a3 a4 x0 x1 x2 x3 hkc dk k1 k2 hb3
      have hst0 : FSt p l 0 [] := by unfold FSt; simp
      have HST0 := Lib.hid hst0
      have HG7 := Lib.hid hg7
      have HA4 := Lib.hid a47
      clear hst0
      go_wp2_with fail
      clear hg7 a47
      go_loopw [41] (fun i wr => FlRel F p l w.heap.size w2.heap.size w7 i wr) (fun i _ => p.l.length - (intOf i).toNat)
      case atStart => exact ⟨0, Nat.zero_le _, rfl, _, [], HG7.out, TRow.nil .., Below.refl _ _, HST0.out, rfl⟩
      case round =>
        obtain ⟨k, hk, rfl, sv, L, hgr, hrow, hbr, hst, hLk⟩ := hrel
        obtain ⟨q, cp, rfl⟩ := hrow.slice
        have hbr2 := hb7.trans hbr
        have hB := hbw2.trans (hbr2.mono hbw2.size)
        have hzr := (hbr2.block _ HLT2.out).trans hz2
        have HST := Lib.hid hst
        have HROW := Lib.hid hrow
        have HLK := Lib.hid hLk
        have HGR := Lib.hid hgr
        have HZR := Lib.hid hzr
        clear hst hrow hLk hgr hzr
        by_cases hlt : k < p.l.length
        · obtain ⟨g, o, qv, rfl, _, hnode, hkid⟩ := (HP0.out.kids.under hB).at hlt
          obtain ⟨p3, c3, rfl⟩ := hkid.kids.slice
          obtain ⟨e0, e1, e2, e3, e4⟩ := hnode
          obtain ⟨q0, q1, q2, q3, q4⟩ := box5 wr (.int .i8 p.l[k].k) (.int .i64 p.l[k].n) (.string p.l[k].s) (.string p.l[k].t) (.slice p3 p.l[k].l.length c3) 31
          have hb3 := alloc_below wr (.cells #[.int .i8 p.l[k].k, .int .i64 p.l[k].n, .string p.l[k].s, .string p.l[k].t, .slice p3 p.l[k].l.length c3] 31)
          have hB3 := hB.trans (hb3.mono hB.size)
          have hsz := hB.size
          have cQ := IH.out p.l[k] (List.getElem_mem hlt) (fun g => (F g ∧ g < w.heap.size) ∨ wr.heap.size < g) l (wr.alloc (.cells #[.int .i8 p.l[k].k, .int .i64 p.l[k].n, .string p.l[k].s, .string p.l[k].t, .slice p3 p.l[k].l.length c3] 31)) _ _ (fun g hg => .inr (by simp at hg; omega)) ((hkid.below hb3).mono fun g hg _ => .inl hg) ((HL0.out.under hB3).mono fun g hg _ => .inl hg) (fil_kid HPAT.out _ (List.getElem_mem hlt)) (by have := nn_kid (List.getElem_mem hlt); have := HNN.out; omega)
          have hown := HROW.out.blk
          have hzn : wr.heap.size < (wr.alloc (.cells #[.int .i8 p.l[k].k, .int .i64 p.l[k].n, .string p.l[k].s, .string p.l[k].t, .slice p3 p.l[k].l.length c3] 31)).heap.size := by simp
          have HB3 := Lib.hid hb3
          have HB3' := Lib.hid hB3
          have HOWN := Lib.hid hown
          have HZN := Lib.hid hzn
          clear hkid hown hzn
          go_upto_region 12 with (first
            | (go_at_call 71; refine cQ.mono ?_; rintro e w5 ⟨y, yv, er, rfl, hy5, hb5, hcase⟩; obtain ⟨p5, c5, rfl⟩ := hy5.kids.slice; have hn5 : (w5.alloc (.cells #[.int .i8 0, .int .i64 0, .string ⟨#[]⟩, .string ⟨#[]⟩, .slice none 0 0] 37)).heap[w5.heap.size]? = some (.cells (cells5 zeroT (.slice none 0 0)) 37 (0, 0)) := heap_new w5 _)
            | (refine wpList_store_row rfl 37 _ _ rfl w5.heap.size (cells5 y (.slice p5 y.l.length c5)) (by kernel_rfl) (by kernel_rfl) 37 (cells5 zeroT (.slice none 0 0)) hn5 (size28 _ _) (by kernel_rfl) (by kernel_rfl) ?_))
          have hr6 := setRow_heap' (cells := cells5 y (.slice p5 y.l.length c5)) hn5
          have hB56 := below_setRow (g := w5.heap.size) (cells := cells5 y (.slice p5 y.l.length c5)) (alloc_below w5 (.cells #[.int .i8 0, .int .i64 0, .string ⟨#[]⟩, .string ⟨#[]⟩, .slice none 0 0] 37)) (Nat.le_refl _)
          generalize (w5.alloc (.cells #[.int .i8 0, .int .i64 0, .string ⟨#[]⟩, .string ⟨#[]⟩, .slice none 0 0] 37)).setRow w5.heap.size (cells5 y (.slice p5 y.l.length c5)) = w6 at hr6 hB56 ⊢
          have hrw : Below wr.heap.size wr w6 := HB3.out.trans ((hb5.trans (hB56.mono hb5.size)).mono (Nat.le_of_lt HZN.out))
          have hy6 := hy5.below hB56
          obtain ⟨d0, d1, d2, d3, d4⟩ := node_heap (x := y) hr6
          simp only [Nat.zero_add] at d1 d2 d3 d4
          have hg6 := (hrw.block _ (Array.getElem?_eq_some_iff.1 HGR.out).1).trans HGR.out
          have hz6 := (hrw.block _ (Array.getElem?_eq_some_iff.1 HZR.out).1).trans HZR.out
          have hrow6 := HROW.out.below hrw
          have hb6b : Below w2.heap.size w7 w6 := hbr.trans (hrw.mono hbr2.size)
          have hb6w : Below w.heap.size w w6 := hB.trans (hrw.mono hB.size)
          have HY6 := Lib.hid hy6
          have HRW := Lib.hid hrw
          have HROW6 := Lib.hid hrow6
          have HG6 := Lib.hid hg6
          have HB6 := Lib.hid hb6b
          have HB6W := Lib.hid hb6w
          clear hn5 hy5 hy6 hrw hr6 hrow6 hb6b hb6w e0 e1 e2 e3 e4 q0 q1 q2 q3 q4 cQ hb5 hB56
          rcases hcase with ⟨rfl, hf⟩ | ⟨rfl, hf⟩
          · have HF6 := Lib.hid hf
            clear hf hz6
            have g4 : w6.cell? ⟨w2.heap.size, 4, none⟩ = some (.slice q L.length cp) := (arr_cell hg6).trans rfl
            have hb6a := alloc_below w6 (.cells (tcells (y, .slice p5 y.l.length c5)).toArray 37)
            have hrow7 := HROW6.out.below hb6a
            have hown7 := hrow7.own
            have HROW7 := Lib.hid hrow7
            have hlenL : L.length ≤ 1048576 := by have := HLK.out; omega
            have hbs : w2.heap.size + 1 ≤ (w6.alloc (.cells (tcells (y, .slice p5 y.l.length c5)).toArray 37)).heap.size := by have := (Array.getElem?_eq_some_iff.1 HG6.out).1; simp; omega
            have hb8a := (hb6a.block _ (Array.getElem?_eq_some_iff.1 HG6.out).1).trans HG6.out
            have hlt8 := (Array.getElem?_eq_some_iff.1 hb8a).1
            have hne8 : (Value.slice q L.length cp).ownBlock ≠ some w2.heap.size := fun e => by have := HOWN.out _ e; omega
            clear hg6 hrow7
            go_wp2_with (at_builtin; refine wpList_append_own2 rfl (.tmp 56) (.tmp 58) 23 rfl (w2.heap.size + 1) 37 i0 _ 5 72 Tryz.underlying23 hi hi0 hi1 hi2 rfl (by decide) _ L.length (L.flatMap tcells) rfl hown7 ⟨w6.heap.size, 0, none⟩ 1 1 (tcells (y, .slice p5 y.l.length c5)) rfl rfl (cells_at_new w6 (tcells (y, .slice p5 y.l.length c5)) 37) (tcells_plain (q := (y, .slice p5 y.l.length c5)) HY6.out) (by unfold maxLen; omega) (by omega) hbs ?_; intro v8 w8 hown8 hgrow8 hnil8; obtain ⟨q8, c8, rfl⟩ := row_shape hown8; have hbk8 := (grown_block hgrow8 hlt8 hne8).trans hb8a; have c84 : w8.cell? ⟨w2.heap.size, 4, none⟩ = some (.slice q L.length cp) := (arr_cell hbk8).trans rfl; have f84 : w8.frozen? ⟨w2.heap.size, 4, none⟩ = false := arr_free hbk8)
            have hyy : TrV (fun g => ((F g ∧ g < w.heap.size) ∨ w2.heap.size < g) ∧ (Value.slice q L.length cp).ownBlock ≠ some g) (w6.alloc (.cells (tcells (y, .slice p5 y.l.length c5)).toArray 37)) y (.slice p5 y.l.length c5) :=
              (HY6.out.below hb6a).mono fun g hg _ => ⟨hg.elim .inl fun h => .inr (by have := (Array.getElem?_eq_some_iff.1 HGR.out).1; omega), fun e => by have := HOWN.out _ e; have := HLT2.out; rcases hg with h | h <;> omega⟩
            have hrow8 := HROW7.out.push hyy hown8 hgrow8 hnil8
            have hrow9 : TRow F w.heap.size w2.heap.size 37 (w8.setCell ⟨w2.heap.size, 4, none⟩ (.slice q8 (L.length + 1) c8)) (.slice q8 (L.length + 1) c8) (L ++ [(y, .slice p5 y.l.length c5)]) :=
              hrow8.keep fun g hg _ => Below.heap_setCell _ _ _ _ (by have := HLT2.out; show g ≠ w2.heap.size; omega)
            have hB8 : Below w2.heap.size w7 w8 := (HB6.out.trans (hb6a.mono (by have := (Array.getElem?_eq_some_iff.1 HG6.out).1; omega))).grown hgrow8 (by omega) (fun j hj => by have := HOWN.out _ hj; omega)
            have hst9 := fst_next HST.out hlt HF6.out
            go_roundw
            case rel => exact ⟨k + 1, hlt, by go_num, _, L ++ [(y, .slice p5 y.l.length c5)], five_set hbk8, hrow9, hB8.setCell (p := ⟨w2.heap.size, 4, none⟩) (Nat.le_refl _) _, by rw [List.map_append]; exact hst9, by rw [List.length_append, HLK.out]; rfl⟩
            case measure => simp [intOf]; omega
          · have hnone : p.fil l = none := by rw [HFI.out, fst_none HST.out hlt hf]; rfl
            have HN := Lib.hid hnone
            have hL0 : L.length ≤ BL := by have := HLK.out; unfold BL; omega
            have hkx : Kids F w6 (.slice q L.length cp) (L.map (·.1)) := HROW6.out.kids HF.out (by have := HLT2.out; omega) hL0
            have hr9 := setRow_heap' (cells := cells5 (.mk (kindT p.k) p.n p.s ⟨#[]⟩ (L.map (·.1))) (.slice q L.length cp)) hz6
            have hB9 := below_setRow (g := w.heap.size + 1) (cells := cells5 (.mk (kindT p.k) p.n p.s ⟨#[]⟩ (L.map (·.1))) (.slice q L.length cp)) HB6W.out (by omega)
            have hrow9 := HROW6.out.keep (w' := w6.setRow (w.heap.size + 1) (cells5 (.mk (kindT p.k) p.n p.s ⟨#[]⟩ (L.map (·.1))) (.slice q L.length cp))) fun g hg _ => setRow_ne (by have := HLT2.out; omega)
            have hty : TrV F (w6.setRow (w.heap.size + 1) (cells5 (.mk (kindT p.k) p.n p.s ⟨#[]⟩ (L.map (·.1))) (.slice q L.length cp))) (.mk (kindT p.k) p.n p.s ⟨#[]⟩ (L.map (·.1))) (.slice q L.length cp) := ⟨fil_node HP.out.wf _, hrow9.kids HF.out (by have := HLT2.out; omega) hL0⟩
            have HTY := Lib.hid hty
            have HB9 := Lib.hid hB9
            clear hf hnone hkx hB9 hrow9 hty
            obtain ⟨g0, g1, g2, g3, g4⟩ := node_heap (x := .mk (kindT p.k) p.n p.s ⟨#[]⟩ []) hg6
            simp only [Nat.zero_add] at g1 g2 g3 g4
            clear hg6
            go_wp2_with (refine wpList_store_row rfl 37 _ _ rfl (w.heap.size + 1) (cells5 (.mk (kindT p.k) p.n p.s ⟨#[]⟩ (L.map (·.1))) (.slice q L.length cp)) (by kernel_rfl) (by kernel_rfl) 37 (cells5 zeroT (.slice none 0 0)) hz6 (size28 _ _) (by kernel_rfl) (by kernel_rfl) ?_)
            refine bodyPost_ret (v := .tuple #[.agg (cells5 (.mk (kindT p.k) p.n p.s ⟨#[]⟩ (L.map (·.1))) (.slice q L.length cp)), .int .i64 2]) (results_term Tryz.results71 _ _ _ _ _ rfl hr9) rfl ⟨_, _, 2, rfl, HTY.out, HB9.out, .inr ⟨rfl, HN.out⟩⟩
        · have hsome : p.fil l = some (.mk (kindT p.k) p.n p.s ⟨#[]⟩ (L.map (·.1))) := by rw [HFI.out, fst_end HST.out (by omega)]; rfl
          have HN := Lib.hid hsome
          have hL0 : L.length ≤ BL := by have := HLK.out; unfold BL; omega
          have hz6 := HZR.out
          have hr9 := setRow_heap' (cells := cells5 (.mk (kindT p.k) p.n p.s ⟨#[]⟩ (L.map (·.1))) (.slice q L.length cp)) hz6
          have hB9 := below_setRow (g := w.heap.size + 1) (cells := cells5 (.mk (kindT p.k) p.n p.s ⟨#[]⟩ (L.map (·.1))) (.slice q L.length cp)) hB (by omega)
          have hrow9 := HROW.out.keep (w' := wr.setRow (w.heap.size + 1) (cells5 (.mk (kindT p.k) p.n p.s ⟨#[]⟩ (L.map (·.1))) (.slice q L.length cp))) fun g hg _ => setRow_ne (by have := HLT2.out; omega)
          have hty : TrV F (wr.setRow (w.heap.size + 1) (cells5 (.mk (kindT p.k) p.n p.s ⟨#[]⟩ (L.map (·.1))) (.slice q L.length cp))) (.mk (kindT p.k) p.n p.s ⟨#[]⟩ (L.map (·.1))) (.slice q L.length cp) := ⟨fil_node HP.out.wf _, hrow9.kids HF.out (by have := HLT2.out; omega) hL0⟩
          have HTY := Lib.hid hty
          have HB9 := Lib.hid hB9
          clear hsome hB9 hrow9 hty
          obtain ⟨g0, g1, g2, g3, g4⟩ := node_heap (x := .mk (kindT p.k) p.n p.s ⟨#[]⟩ []) HGR.out
          simp only [Nat.zero_add] at g1 g2 g3 g4
          go_wp2_with (refine wpList_store_row rfl 37 _ _ rfl (w.heap.size + 1) (cells5 (.mk (kindT p.k) p.n p.s ⟨#[]⟩ (L.map (·.1))) (.slice q L.length cp)) (by kernel_rfl) (by kernel_rfl) 37 (cells5 zeroT (.slice none 0 0)) hz6 (size28 _ _) (by kernel_rfl) (by kernel_rfl) ?_)
          refine bodyPost_ret (v := .tuple #[.agg (cells5 (.mk (kindT p.k) p.n p.s ⟨#[]⟩ (L.map (·.1))) (.slice q L.length cp)), .int .i64 0]) (results_term Tryz.results71 _ _ _ _ _ rfl hr9) rfl ⟨_, _, 0, rfl, HTY.out, HB9.out, .inl ⟨rfl, HN.out⟩⟩
end Go.Proofs.YtmnjcbjfkaoeaaaGreatDoor
