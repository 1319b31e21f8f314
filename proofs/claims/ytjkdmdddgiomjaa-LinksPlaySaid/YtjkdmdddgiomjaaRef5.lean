/-
  The reference's Web: what writes keep, and what they leave. Conditions: as said.
-/
import Derived.Test.YtjkdmdddgiomjaaRef4
namespace Go.Proofs.Ytjkdmdddgiomjaa
open Go.RowKit Go.Maps

def rblk (R : Nat) (vL vM : Value) : List Nat := R :: (vL.ownBlock.toList ++ vM.ownBlock.toList)
theorem mem_rblk {R : Nat} {vL vM : Value} {k : Nat} : k ∈ rblk R vL vM ↔ k = R ∨ vL.ownBlock = some k ∨ vM.ownBlock = some k := by
  simp [rblk]
theorem ownsRow_keep {w w' : World} {T : Nat → Prop} {base : Nat} {e : TypeId} {size : Nat} {v : Value} {n : Nat} {xs : List Value} (h : w.ownsRow base e size v n xs) (ht : Turn T w w') (hT : ∀ k, v.ownBlock = some k → ¬ T k) : w'.ownsRow base e size v n xs := by
  obtain ⟨h1, h2⟩ := h
  refine ⟨h1, ?_⟩
  rcases h2 with h2 | ⟨g, cap, cur, rfl, hg, hh, r⟩
  · exact .inl h2
  · exact .inr ⟨g, cap, cur, rfl, hg, (ht.block g (Array.getElem?_eq_some_iff.1 hh).1 (hT g rfl)).trans hh, r⟩
theorem ownsRow_lt {w : World} {base : Nat} {e : TypeId} {size : Nat} {v : Value} {n : Nat} {xs : List Value} (h : w.ownsRow base e size v n xs) : ∀ k, v.ownBlock = some k → base ≤ k ∧ k < w.heap.size ∧ ∃ cur, w.heap[k]? = some (.cells cur e (0, 0)) := by
  intro k hk
  rcases h.2 with ⟨rfl, _⟩ | ⟨g, cap, cur, rfl, hg, hh, r⟩
  · cases hk
  · cases hk
    exact ⟨hg, (Array.getElem?_eq_some_iff.1 hh).1, cur, hh⟩

section
variable {w w' : World} {R : Nat} {ll : List (Int × Int)} {M : List (Int × Int × Int)} {last : Int} {vL vM : Value}
theorem RefW.inW (h : RefW w R ll M last vL vM) {k : Nat} (hk : k ∈ rblk R vL vM) : k < w.heap.size := by
  rcases mem_rblk.1 hk with rfl | hk | hk
  · exact h.lt
  · exact (ownsRow_lt h.rl.1 k hk).2.1
  · exact (ownsRow_lt h.rm.1 k hk).2.1
theorem RefW.keep (h : RefW w R ll M last vL vM) {T : Nat → Prop} (ht : Turn T w w') (hT : ∀ k ∈ rblk R vL vM, ¬ T k) : RefW w' R ll M last vL vM :=
  ⟨(ht.block _ h.lt (hT _ (mem_rblk.2 (.inl rfl)))).trans h.head, ⟨ownsRow_keep h.rl.1 ht fun k hk => hT k (mem_rblk.2 (.inr (.inl hk))), h.rl.2⟩, ⟨ownsRow_keep h.rm.1 ht fun k hk => hT k (mem_rblk.2 (.inr (.inr hk))), h.rm.2⟩⟩
theorem RefW.below (h : RefW w R ll M last vL vM) (hb : Below w.heap.size w w') : RefW w' R ll M last vL vM := h.keep (T := fun _ => False) (Turn.of_below hb) fun _ _ h => h
theorem RefW.notL (h : RefW w R ll M last vL vM) : vL.ownBlock ≠ some R := fun e => by
  obtain ⟨_, _, cur, hh⟩ := ownsRow_lt h.rl.1 _ e
  rw [h.head] at hh
  cases hh
theorem RefW.notM (h : RefW w R ll M last vL vM) : vM.ownBlock ≠ some R := fun e => by
  obtain ⟨_, _, cur, hh⟩ := ownsRow_lt h.rm.1 _ e
  rw [h.head] at hh
  cases hh
theorem RefW.apart (h : RefW w R ll M last vL vM) {k : Nat} (h1 : vL.ownBlock = some k) : vM.ownBlock ≠ some k := fun e => by
  obtain ⟨_, _, cur, hh⟩ := ownsRow_lt h.rl.1 _ h1
  obtain ⟨_, _, cur', hh'⟩ := ownsRow_lt h.rm.1 _ e
  rw [hh] at hh'
  cases hh'

theorem head_set {t : TypeId} {x y z u : Value} (h : w.heap[R]? = some (.cells #[x, y, z] t (0, 0))) :
    (w.setCell ⟨R, 0, none⟩ u).heap[R]? = some (.cells #[u, y, z] t (0, 0)) ∧ (w.setCell ⟨R, 1, none⟩ u).heap[R]? = some (.cells #[x, u, z] t (0, 0)) ∧ (w.setCell ⟨R, 2, none⟩ u).heap[R]? = some (.cells #[x, y, u] t (0, 0)) := by
  refine ⟨?_, ?_, ?_⟩ <;> (simp only [World.setCell, Array.getElem?_modify, if_true, h]; rfl)

/-- What a writing method leaves of the reference's Web. -/
structure RLeft (w : World) (R : Nat) (vL vM : Value) (ll : List (Int × Int)) (M : List (Int × Int × Int)) (last : Int) (w' : World) : Prop where
  ref : ∃ vL' vM', RefW w' R ll M last vL' vM' ∧ ∀ k ∈ rblk R vL' vM', k ∈ rblk R vL vM ∨ w.heap.size ≤ k
  turn : Turn (· ∈ rblk R vL vM) w w'

theorem RefW.same (h : RefW w R ll M last vL vM) (hb : Below w.heap.size w w') : RLeft w R vL vM ll M last w' := ⟨⟨vL, vM, h.below hb, fun _ hk => .inl hk⟩, Turn.of_below hb⟩

theorem turn_set {wr : World} (hb : Below w.heap.size w wr) (i : Nat) (u : Value) : Turn (· ∈ rblk R vL vM) w (wr.setCell ⟨R, i, none⟩ u) :=
  (Turn.of_below hb).comp (Turn.setCell wr ⟨R, i, none⟩ u) fun k _ e => by subst e; exact mem_rblk.2 (.inl rfl)

theorem RefW.setL (h : RefW w R ll M last vL vM) {wr : World} (hb : Below w.heap.size w wr) {out : Value} {ll' : List (Int × Int)} (hout : NewPairs w.heap.size wr out ll') : RLeft w R vL vM ll' M last (wr.setCell ⟨R, 0, none⟩ out) := by
  have hr := h.below hb
  have ht := Turn.setCell wr ⟨R, 0, none⟩ out
  refine ⟨⟨out, vM, ⟨(head_set hr.head).1, ⟨ownsRow_keep (ownsRow_base_a hout.1 (Nat.zero_le _)) ht fun k hk e => ?_, hout.2⟩, ⟨ownsRow_keep hr.rm.1 ht fun k hk e => ?_, hr.rm.2⟩⟩, fun k hk => ?_⟩, turn_set hb 0 out⟩
  · subst e; have := (ownsRow_lt hout.1 _ hk).1; have := h.lt; simp only at *; omega
  · subst e; exact hr.notM hk
  · rcases mem_rblk.1 hk with rfl | hk | hk
    · exact .inl (mem_rblk.2 (.inl rfl))
    · exact .inr (ownsRow_lt hout.1 _ hk).1
    · exact .inl (mem_rblk.2 (.inr (.inr hk)))
theorem RefW.setM (h : RefW w R ll M last vL vM) {wr : World} (hb : Below w.heap.size w wr) {out : Value} {M' : List (Int × Int × Int)} (hout : NewSeen w.heap.size wr out M') : RLeft w R vL vM ll M' last (wr.setCell ⟨R, 1, none⟩ out) := by
  have hr := h.below hb
  have ht := Turn.setCell wr ⟨R, 1, none⟩ out
  refine ⟨⟨vL, out, ⟨(head_set hr.head).2.1, ⟨ownsRow_keep hr.rl.1 ht fun k hk e => ?_, hr.rl.2⟩, ⟨ownsRow_keep (ownsRow_base_a hout.1 (Nat.zero_le _)) ht fun k hk e => ?_, hout.2⟩⟩, fun k hk => ?_⟩, turn_set hb 1 out⟩
  · subst e; exact hr.notL hk
  · subst e; have := (ownsRow_lt hout.1 _ hk).1; have := h.lt; simp only at *; omega
  · rcases mem_rblk.1 hk with rfl | hk | hk
    · exact .inl (mem_rblk.2 (.inl rfl))
    · exact .inl (mem_rblk.2 (.inr (.inl hk)))
    · exact .inr (ownsRow_lt hout.1 _ hk).1
theorem RefW.setLast (h : RefW w R ll M last vL vM) {wr : World} (hb : Below w.heap.size w wr) (n : Int) : RefW (wr.setCell ⟨R, 2, none⟩ (.int .i64 n)) R ll M n vL vM := by
  have hr := h.below hb
  have ht := Turn.setCell wr ⟨R, 2, none⟩ (.int .i64 n)
  exact ⟨(head_set hr.head).2.2, ⟨ownsRow_keep hr.rl.1 ht fun k hk e => by subst e; exact hr.notL hk, hr.rl.2⟩, ⟨ownsRow_keep hr.rm.1 ht fun k hk e => by subst e; exact hr.notM hk, hr.rm.2⟩⟩
theorem RefW.next (h : RefW w R ll M last vL vM) (n : Int) : RLeft w R vL vM ll M n (w.setCell ⟨R, 2, none⟩ (.int .i64 n)) :=
  ⟨⟨vL, vM, h.setLast (Below.refl _ _) n, fun _ hk => .inl hk⟩, turn_set (Below.refl _ _) 2 _⟩
theorem RefW.frozen (h : RefW w R ll M last vL vM) (i : Nat) : w.frozen? ⟨R, i, none⟩ = false := by simp [World.frozen?, h.head]

set_option maxHeartbeats 400000 in
theorem rnext_any (h : RefW w R ll M last vL vM) (h0 : 0 ≤ last) (h1 : last < BN) :
    Calls Try.prog 22 #[.pointer (some ⟨R, 0, none⟩)] w fun e w' => e = .returned (.tuple #[.int .i64 (last + 1), .int .i64 0]) ∧ RLeft w R vL vM ll M (last + 1) w' := by
  have hc := h.cell2
  have hf := h.frozen 2
  have hl := h.next (last + 1)
  have h1' : last < 1099511627776 := h1
  have hw : IntKind.i64.wrap (last + 1) = last + 1 := by rw [IntKind.wrap_i64]; omega
  have hc2 : (w.setCell ⟨R, 2, none⟩ (.int .i64 (last + 1))).cell? ⟨R, 2, none⟩ = some (.int .i64 (last + 1)) := by simp [World.cell?, (head_set h.head).2.2]
  clear h h1
  go_enter Try.func22, Try.ntmps22
  go_wp2
  go_ret2
  exact ⟨rfl, hl⟩
set_option maxHeartbeats 400000 in
theorem rnew_any (w : World) : Calls Try.prog 16 #[] w fun e w' => ∃ R, e = .returned (.pointer (some ⟨R, 0, none⟩)) ∧ RefW w' R [] [] 0 (.slice none 0 0) (.slice none 0 0) ∧ w.heap.size ≤ R ∧ Below w.heap.size w w' := by
  go_enter Try.func16, Try.ntmps16
  go_wp2
  go_ret
  refine ⟨_, rfl, ⟨(MapKept.heap_alloc w _).1, ⟨World.ownsRow_nil .., by simp⟩, ⟨World.ownsRow_nil .., by simp⟩⟩, Nat.le_refl _, (Below.refl _ _).alloc (Nat.le_refl _) _⟩
end
end Go.Proofs.Ytjkdmdddgiomjaa
