/-
  LinksPlay: what lies behind the switch. Conditions: as said.
-/
import Derived.Test.YtjkdmdddgiomjaaRel2
namespace Go.Proofs.Ytjkdmdddgiomjaa
open Go.RowKit Go.Maps

/-- The two webs side by side. -/
def Both (w : World) (B R N : Nat) (p : PS) (ll : List (Int × Int)) (wr : World) : Prop :=
  ∃ L vL vM, WebL wr B N L p ∧ RefW wr R ll p.M p.last vL vM ∧ (∀ j ∈ L, w.heap.size ≤ j) ∧ (∀ j ∈ rblk R vL vM, w.heap.size ≤ j ∧ ¬ j ∈ L) ∧ Below w.heap.size w wr

/-- Behind the switch: want's box holds what got's box holds. -/
def Mid (w : World) (B R N b11 b12 : Nat) (r : AR × PS) (ll : List (Int × Int)) (gl gs : Value) (wx : World) : Prop :=
  Both w B R N r.2 ll wx ∧ Blk5 wx b11 (.int .i64 r.1.n) (.bool r.1.ok) gl gs (.int .i64 r.1.e) ∧ IntsAt wx gl r.1.l ∧ SeenAt wx gs r.1.s ∧
    ∃ lv sv, Blk5 wx b12 (.int .i64 r.1.n) (.bool r.1.ok) lv sv (.int .i64 r.1.e) ∧ IntsAt wx lv r.1.l ∧ SeenAt wx sv r.1.s

/-- What lies where the switch begins. -/
structure Pre (w : World) (B R N b11 b12 : Nat) (r : AR × PS) (ll : List (Int × Int)) (M : List (Int × Int × Int)) (last : Int) (L : List Nat) (vL vM gl gs : Value) (bg : Nat) (w4 : World) : Prop where
  web : WebL w4 B N L r.2
  ref : RefW w4 R ll M last vL vM
  hi : ∀ j ∈ L, w.heap.size ≤ j
  ap : ∀ j ∈ rblk R vL vM, w.heap.size ≤ j ∧ ¬ j ∈ L
  bel : Below w.heap.size w w4
  got : Blk5 w4 b11 (.int .i64 r.1.n) (.bool r.1.ok) gl gs (.int .i64 r.1.e)
  gotl : w4.ownsRow bg 3 1 gl r.1.l.length (r.1.l.map (Value.int .i64)) ∧ (gl = .slice none 0 0 ↔ r.1.l = [])
  gots : NewSeen bg w4 gs r.1.s
  n11 : ¬ b11 ∈ rblk R vL vM
  n12 : ¬ b12 ∈ rblk R vL vM
  n12L : ¬ b12 ∈ L
  lt12 : b12 < w4.heap.size
  lt11 : b11 < b12
  lo11 : w.heap.size ≤ b11
  rlt : ∀ j ∈ rblk R vL vM, j < bg
  glB : gl.ownBlock ≠ some b12
  gsB : gs.ownBlock ≠ some b12

theorem Blk5.keep {w w' : World} {b : Nat} {x0 x1 x2 x3 x4 : Value} (h : Blk5 w b x0 x1 x2 x3 x4) (hb : w'.heap[b]? = w.heap[b]?) : Blk5 w' b x0 x1 x2 x3 x4 :=
  ⟨(World.cell?_of_block (a := ⟨b, 0, none⟩) hb).trans h.c0, (World.cell?_of_block (a := ⟨b, 1, none⟩) hb).trans h.c1, (World.cell?_of_block (a := ⟨b, 2, none⟩) hb).trans h.c2, (World.cell?_of_block (a := ⟨b, 3, none⟩) hb).trans h.c3, (World.cell?_of_block (a := ⟨b, 4, none⟩) hb).trans h.c4, fun i => (World.frozen?_of_block (a := ⟨b, i, none⟩) hb).trans (h.fr i)⟩

theorem ints_at {base : Nat} {w : World} {v : Value} {l : List Int} (h : w.ownsRow base 3 1 v l.length (l.map (Value.int .i64))) (hn : v = .slice none 0 0 ↔ l = []) : IntsAt w v l := by
  rcases ints_cases h hn with ⟨rfl, rfl⟩ | ⟨g, cap, rfl, _, _, hc, hcells, _⟩
  · exact ⟨none, 0, rfl, Nat.le_refl _, fun k hk => absurd hk (by simp)⟩
  · exact ⟨_, cap, rfl, hc, fun k hk => ⟨g, rfl, hcells k hk⟩⟩

theorem mid_end {w w4 w5 w6 : World} {B R N b11 b12 bg : Nat} {r : AR × PS} {ll ll' : List (Int × Int)} {M : List (Int × Int × Int)} {last : Int} {L : List Nat} {vL vM gl gs lv sv : Value} (h : Pre w B R N b11 b12 r ll M last L vL vM gl gs bg w4)
    (hR : RLeft w4 R vL vM ll' r.2.M r.2.last w5) (ht : Turn (· = b12) w5 w6) (hbox : Blk5 w6 b12 (.int .i64 r.1.n) (.bool r.1.ok) lv sv (.int .i64 r.1.e)) (hl : IntsAt w6 lv r.1.l) (hs : SeenAt w6 sv r.1.s) : Mid w B R N b11 b12 r ll' gl gs w6 := by
  obtain ⟨⟨vL', vM', hr5, hsub⟩, hT⟩ := hR
  have hLlt : ∀ j ∈ L, j < w4.heap.size := fun j hj => h.web.lt hj
  have h46 : Turn (fun k => k ∈ rblk R vL vM ∨ k = b12) w4 w6 := (hT.mono fun k _ hk => .inl hk).comp ht fun k _ e => .inr e
  have hn12 : ∀ k ∈ rblk R vL' vM', ¬ k = b12 := fun k hk e => by
    subst e
    rcases hsub k hk with h1 | h1
    · exact h.n12 h1
    · have := h.lt12; omega
  have h11 : w6.heap[b11]? = w4.heap[b11]? := h46.block b11 (by have := h.lt11; have := h.lt12; omega) fun e => by
    rcases e with e | e
    · exact h.n11 e
    · have := h.lt11; omega
  refine ⟨⟨L, vL', vM', h.web.keep h46 fun k hk e => ?_, hr5.keep ht hn12, h.hi, fun j hj => ?_, ?_⟩, h.got.keep h11, ?_, ?_, lv, sv, hbox, hl, hs⟩
  · rcases e with e | e
    · exact (h.ap k e).2 hk
    · subst e; exact h.n12L hk
  · rcases hsub j hj with h1 | h1
    · exact h.ap j h1
    · exact ⟨Nat.le_trans h.bel.size h1, fun hm => by have := hLlt j hm; omega⟩
  · refine h.bel.trans (h46.below h.bel.size fun k hk e => ?_)
    rcases e with e | e
    · have := (h.ap k e).1; omega
    · subst e; have := h.lt11; have := h.lo11; omega
  · have hk := ownsRow_keep h.gotl.1 h46 fun k hk e => ?_
    · exact ints_at hk h.gotl.2
    rcases e with e | e
    · have := h.rlt k e; have := (ownsRow_lt h.gotl.1 k hk).1; omega
    · subst e; exact h.glB hk
  · have hk := ownsRow_keep h.gots.1 h46 fun k hk e => ?_
    · exact NewSeen.at (base := bg) ⟨hk, h.gots.2⟩
    rcases e with e | e
    · have := h.rlt k e; have := (ownsRow_lt h.gots.1 k hk).1; omega
    · subst e; exact h.gsB hk
theorem set5 {w : World} {b : Nat} {t : TypeId} {x0 x1 x2 x3 x4 u : Value} (h : w.heap[b]? = some (.cells #[x0, x1, x2, x3, x4] t (0, 0))) :
    (w.setCell ⟨b, 0, none⟩ u).heap[b]? = some (.cells #[u, x1, x2, x3, x4] t (0, 0)) ∧ (w.setCell ⟨b, 1, none⟩ u).heap[b]? = some (.cells #[x0, u, x2, x3, x4] t (0, 0)) ∧ (w.setCell ⟨b, 2, none⟩ u).heap[b]? = some (.cells #[x0, x1, u, x3, x4] t (0, 0)) ∧
      (w.setCell ⟨b, 3, none⟩ u).heap[b]? = some (.cells #[x0, x1, x2, u, x4] t (0, 0)) ∧ (w.setCell ⟨b, 4, none⟩ u).heap[b]? = some (.cells #[x0, x1, x2, x3, u] t (0, 0)) := by
  refine ⟨?_, ?_, ?_, ?_, ?_⟩ <;> (simp only [World.setCell, Array.getElem?_modify, if_true, h]; rfl)
theorem nil_ints (w : World) : IntsAt w (.slice none 0 0) [] := ⟨none, 0, rfl, Nat.le_refl _, fun k hk => absurd hk (by simp)⟩
theorem nil_seen (w : World) : SeenAt w (.slice none 0 0) [] := ⟨none, 0, rfl, Nat.le_refl _, fun k hk => absurd hk (by simp)⟩
theorem leave_same (a : Int) (M : List (Int × Int × Int)) : decide ((M.filter fun m => m.1 != a).length < M.length) = M.any fun m => m.1 == a := by
  have h : (M.filter fun m => m.1 != a).length < M.length ↔ (M.any fun m => m.1 == a) = true := by
    induction M with
    | nil => simp
    | cons m r ih =>
      have hle := List.length_filter_le (fun m : Int × Int × Int => m.1 != a) r
      by_cases hm : m.1 = a
      · simp [hm]; omega
      · simp [hm] at ih ⊢
        try exact ih
  cases hc : M.any fun m => m.1 == a
  · rw [hc] at h; simpa using h
  · rw [hc] at h; simpa using h
theorem gone_filter (a : Int) (M : List (Int × Int × Int)) : M.filter (fun m => !(m.2.1 == a || m.2.2 == a)) = M.filter fun m => m.2.1 != a && m.2.2 != a := by
  refine List.filter_congr fun m _ => ?_
  simp only [bne, Bool.not_or]
def RGoneAt (w : World) (R : Nat) (vL vM : Value) (l : List Int) (s : List (Int × Int × Int)) (c : Int) (ll' : List (Int × Int)) (M' : List (Int × Int × Int)) (last : Int) (e : Ending) (w' : World) : Prop :=
  ∃ v1 v2, e = .returned (.tuple #[v1, v2, .int .i64 c]) ∧ NewInts w w' v1 l ∧ NewSeen w.heap.size w' v2 s ∧ RLeft w R vL vM ll' M' last w'
theorem IntsAt.slice {w : World} {v : Value} {l : List Int} (h : IntsAt w v l) : ∃ p c, v = .slice p l.length c := by
  obtain ⟨p, c, rfl, _, _⟩ := h
  exact ⟨p, c, rfl⟩
theorem SeenAt.slice {w : World} {v : Value} {l : List (Int × Int × Int)} (h : SeenAt w v l) : ∃ p c, v = .slice p l.length c := by
  obtain ⟨p, c, rfl, _, _⟩ := h
  exact ⟨p, c, rfl⟩
theorem IntsAt.below {w w' : World} {v : Value} {l : List Int} (h : IntsAt w v l) (hb : Below w.heap.size w w') : IntsAt w' v l := by
  obtain ⟨p, c, rfl, hc, hx⟩ := h
  refine ⟨p, c, rfl, hc, fun k hk => ?_⟩
  obtain ⟨g, hg, h0⟩ := hx k hk
  exact ⟨g, hg, (hb.cell (p := ⟨g, k, none⟩) (cell_lt h0)).trans h0⟩
theorem SeenAt.below {w w' : World} {v : Value} {l : List (Int × Int × Int)} (h : SeenAt w v l) (hb : Below w.heap.size w w') : SeenAt w' v l := by
  obtain ⟨p, c, rfl, hc, hx⟩ := h
  refine ⟨p, c, rfl, hc, fun k hk => ?_⟩
  obtain ⟨g, hg, h0, h1, h2⟩ := hx k hk
  exact ⟨g, hg, (hb.cell (p := ⟨g, k * 3, none⟩) (cell_lt h0)).trans h0, (hb.cell (p := ⟨g, k * 3 + 1, none⟩) (cell_lt h1)).trans h1, (hb.cell (p := ⟨g, k * 3 + 2, none⟩) (cell_lt h2)).trans h2⟩
theorem ask_len {p : PS} (h : Inv p) (d a b : Int) : (askS d a b p).1.l.length ≤ 64 ∧ (askS d a b p).1.s.length ≤ p.M.length := by
  unfold askS
  repeat' split
  all_goals first
    | exact ⟨Nat.zero_le _, Nat.zero_le _⟩
    | exact ⟨h.len _, List.length_filter_le _ _⟩
end Go.Proofs.Ytjkdmdddgiomjaa
