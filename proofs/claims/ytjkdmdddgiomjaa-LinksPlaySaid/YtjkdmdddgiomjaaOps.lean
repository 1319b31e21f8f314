/-
  The Web's methods New, Next, Leave, Watch. Conditions: the Web lies as 'Web' says; its maps are small.
-/
import Derived.Test.YtjkdmdddgiomjaaSuch
import Derived.StillTailTactics
namespace Go.Proofs.Ytjkdmdddgiomjaa
open Go.RowKit Go.Maps

/-- w' is w but for the blocks of T, and for new blocks. -/
structure Turn (T : Nat → Prop) (w w' : World) : Prop where
  os : w'.os = w.os
  tape : w'.tape = w.tape
  output : w'.output = w.output
  size : w.heap.size ≤ w'.heap.size
  block : ∀ k, k < w.heap.size → ¬ T k → w'.heap[k]? = w.heap[k]?

theorem Turn.refl (T : Nat → Prop) (w : World) : Turn T w w := ⟨rfl, rfl, rfl, Nat.le_refl _, fun _ _ _ => rfl⟩
theorem Turn.trans {T : Nat → Prop} {a b c : World} (h : Turn T a b) (k : Turn T b c) : Turn T a c :=
  ⟨k.os.trans h.os, k.tape.trans h.tape, k.output.trans h.output, Nat.le_trans h.size k.size, fun i hi hT => (k.block i (Nat.lt_of_lt_of_le hi h.size) hT).trans (h.block i hi hT)⟩
theorem Turn.mono {T T' : Nat → Prop} {a b : World} (h : Turn T a b) (hT : ∀ k, k < a.heap.size → T k → T' k) : Turn T' a b :=
  ⟨h.os, h.tape, h.output, h.size, fun i hi hn => h.block i hi fun ht => hn (hT i hi ht)⟩
theorem Turn.of_below {T : Nat → Prop} {w w' : World} (h : Below w.heap.size w w') : Turn T w w' := ⟨h.os, h.tape, h.output, h.size, fun k hk _ => h.block k hk⟩
theorem Turn.of_map {w w' : World} {b : Nat} (h : w.mapTurned w' b) : Turn (· = b) w w' :=
  have g := h.grown
  ⟨g.os, g.tape, g.output, g.size, fun k hk hne => g.block k hk (by simpa using hne)⟩
theorem Turn.setCell (w : World) (p : Addr) (u : Value) : Turn (· = p.block) w (w.setCell p u) :=
  ⟨rfl, rfl, rfl, by simp [World.setCell], fun k _ hne => Below.heap_setCell _ _ _ _ hne⟩
theorem Turn.alloc (T : Nat → Prop) (w : World) (o : Obj) : Turn T w (w.alloc o) := Turn.of_below ((Below.refl _ w).alloc (Nat.le_refl _) o)
theorem Turn.below {T : Nat → Prop} {w w' : World} (h : Turn T w w') {B : Nat} (hB : B ≤ w.heap.size) (hT : ∀ k, k < B → ¬ T k) : Below B w w' :=
  ⟨h.os, h.tape, h.output, h.size, fun k hk => h.block k (Nat.lt_of_lt_of_le hk hB) (hT k hk)⟩

/-- The blocks of a Web. -/
def wb (B bl bp bs : Nat) (il : List (Int × Nat × List Int)) : List Nat := B :: bl :: bp :: bs :: il.map (·.2.1)

section
variable {w w' : World} {B N : Nat} {il : List (Int × Nat × List Int)} {S : Int → Int → Bool} {M : List (Int × Int × Int)} {last : Int} {bl bp bs : Nat}

theorem Web.lt (h : Web w B N il S M last bl bp bs) {k : Nat} (hk : k ∈ wb B bl bp bs il) : k < w.heap.size := by
  simp only [wb, List.mem_cons, List.mem_map] at hk
  rcases hk with rfl | rfl | rfl | rfl | ⟨p, hp, rfl⟩
  · exact (Array.getElem?_eq_some_iff.1 h.head).1
  · exact h.outer.lt
  · exact h.pairs.lt
  · exact h.seen.lt
  · exact (h.inner p hp).lt
/-- A Web stays while its blocks do. -/
theorem Web.keep (h : Web w B N il S M last bl bp bs) {T : Nat → Prop} (ht : Turn T w w') (hT : ∀ k ∈ wb B bl bp bs il, ¬ T k) : Web w' B N il S M last bl bp bs where
  head := (ht.block _ (h.lt (by simp [wb])) (hT _ (by simp [wb]))).trans h.head
  outer := h.outer.same (ht.block _ h.outer.lt (hT _ (by simp [wb])))
  inner p hp := (h.inner p hp).same (ht.block _ (h.inner p hp).lt (hT _ (by simp only [wb, List.mem_cons, List.mem_map]; exact .inr (.inr (.inr (.inr ⟨p, hp, rfl⟩))))))
  pairs := h.pairs.same (ht.block _ h.pairs.lt (hT _ (by simp [wb])))
  seen := h.seen.same (ht.block _ h.seen.lt (hT _ (by simp [wb])))
  nodup := h.nodup
theorem Web.mono (h : Web w B N il S M last bl bp bs) {N' : Nat} (hn : N ≤ N') : Web w B N' il S M last bl bp bs :=
  ⟨h.head, h.outer.mono hn, fun p hp => (h.inner p hp).mono hn, h.pairs.mono hn, h.seen.mono hn, h.nodup⟩

set_option maxHeartbeats 400000 in
theorem new_any (w : World) : Calls Try.prog 8 #[] w fun e w' => ∃ B bl bp bs, e = .returned (.pointer (some ⟨B, 0, none⟩)) ∧ Web w' B 0 [] (fun _ _ => false) [] 0 bl bp bs ∧ (∀ k ∈ wb B bl bp bs [], w.heap.size ≤ k) ∧ Below w.heap.size w w' := by
  have hmm := @run_makeMap Try.prog
  go_enter Try.func8, Try.ntmps8
  go_wp2
  go_ret
  refine ⟨w.heap.size + 3, w.heap.size, w.heap.size + 1, w.heap.size + 2, by simp, ?_, by simp [wb], ((((Below.refl _ w).alloc (Nat.le_refl _) _).alloc (by simp) _).alloc (by simp; omega) _).alloc (by simp; omega) _⟩
  have b0 := IMap.made w 3
  have b1 := PMap.made (w.alloc (.map #[] 0))
  have b2 := IMap.made ((w.alloc (.map #[] 0)).alloc (.map #[] 0)) 3
  have e1 : (w.alloc (.map #[] 0)).heap.size = w.heap.size + 1 := by simp
  have e2 : ((w.alloc (.map #[] 0)).alloc (.map #[] 0)).heap.size = w.heap.size + 2 := by simp
  have e3 : (((w.alloc (.map #[] 0)).alloc (.map #[] 0)).alloc (.map #[] 0)).heap.size = w.heap.size + 3 := by simp
  rw [e1] at b1
  rw [e2] at b2
  refine ⟨?_, ?_, by simp, ?_, ?_, by simp⟩
  · have := (MapKept.heap_alloc (((w.alloc (.map #[] 0)).alloc (.map #[] 0)).alloc (.map #[] 0)) (.cells #[.map (some w.heap.size), .map (some (w.heap.size + 1)), .map (some (w.heap.size + 2)), .int .i64 0] 59)).1
    rw [e3] at this
    exact this
  · exact ((b0.same (Below.heap_alloc _ _ _ (by simp))).same (Below.heap_alloc _ _ _ (by simp; omega))).same (Below.heap_alloc _ _ _ (by simp; omega))
  · exact (b1.same (Below.heap_alloc _ _ _ (by simp))).same (Below.heap_alloc _ _ _ (by simp))
  · exact b2.same (Below.heap_alloc _ _ _ (by simp))

set_option maxHeartbeats 400000 in
theorem next_nil (w : World) : Calls Try.prog 34 #[.pointer none] w fun e w' => e = .returned (.tuple #[.int .i64 0, .int .i64 1]) ∧ w = w' := by
  go_enter Try.func34, Try.ntmps34
  go_wp2
  go_ret2
  exact ⟨rfl, rfl⟩
theorem Web.setLast (h : Web w B N il S M last bl bp bs) (n : Int) : Web (w.setCell ⟨B, 3, none⟩ (.int .i64 n)) B N il S M n bl bp bs := by
  have ht := Turn.setCell w ⟨B, 3, none⟩ (.int .i64 n)
  have hn : ∀ k ∈ bl :: bp :: bs :: il.map (·.2.1), k ≠ B := fun k hk e => (List.nodup_cons.1 h.nodup).1 (e ▸ hk)
  refine ⟨?_, ?_, fun p hp => ?_, ?_, ?_, h.nodup⟩
  · simp only [World.setCell, Array.getElem?_modify, if_true, h.head]
    rfl
  · exact h.outer.same (ht.block _ h.outer.lt (hn _ (by simp)))
  · exact (h.inner p hp).same (ht.block _ (h.inner p hp).lt (hn _ (by simp only [List.mem_cons, List.mem_map]; exact .inr (.inr (.inr ⟨p, hp, rfl⟩)))))
  · exact h.pairs.same (ht.block _ h.pairs.lt (hn _ (by simp)))
  · exact h.seen.same (ht.block _ h.seen.lt (hn _ (by simp)))
set_option maxHeartbeats 400000 in
theorem next_any (h : Web w B N il S M last bl bp bs) (h0 : 0 ≤ last) (h1 : last ≤ BN) :
    Calls Try.prog 34 #[.pointer (some ⟨B, 0, none⟩)] w fun e w' => e = .returned (.tuple #[.int .i64 (last + 1), .int .i64 0]) ∧ w' = w.setCell ⟨B, 3, none⟩ (.int .i64 (last + 1)) := by
  have h3 := h.cell3
  have hf := h.frozen 3
  have h1' : last ≤ 1099511627776 := h1
  have hh := (h.setLast (last + 1)).cell3
  clear h h1
  go_enter Try.func34, Try.ntmps34
  go_wp2
  go_ret2
  exact ⟨rfl, rfl⟩

theorem Web.drop (h : Web w B N il S M last bl bp bs) {M' : List (Int × Int × Int)} (ht : Turn (· = bs) w w') {N' : Nat} (hs : IMap 3 w' bs N' (M'.map fun m => (m.1, seenV m))) (hN : N ≤ N') : Web w' B N' il S M' last bl bp bs := by
  have hn : ∀ k ∈ B :: bl :: bp :: il.map (·.2.1), k ≠ bs := by
    have hp : (bs :: B :: bl :: bp :: il.map (·.2.1)).Nodup := by
      refine (List.Perm.nodup_iff ?_).1 h.nodup
      exact ((List.Perm.swap bs bp _).cons bl |>.trans (List.Perm.swap bs bl _) |>.cons B).trans (List.Perm.swap bs B _)
    exact fun k hk e => (List.nodup_cons.1 hp).1 (e ▸ hk)
  refine ⟨?_, ?_, fun p hp => ?_, ?_, hs, h.nodup⟩
  · exact (ht.block _ (Array.getElem?_eq_some_iff.1 h.head).1 (hn _ (by simp))).trans h.head
  · exact (h.outer.same (ht.block _ h.outer.lt (hn _ (by simp)))).mono hN
  · exact ((h.inner p hp).same (ht.block _ (h.inner p hp).lt (hn _ (by simp only [List.mem_cons, List.mem_map]; exact .inr (.inr (.inr ⟨p, hp, rfl⟩)))))).mono hN
  · exact (h.pairs.same (ht.block _ h.pairs.lt (hn _ (by simp)))).mono hN

theorem del_seen (r : Int) (M : List (Int × Int × Int)) : del r (M.map fun m => (m.1, seenV m)) = (M.filter fun m => m.1 != r).map fun m => (m.1, seenV m) := by
  unfold del
  rw [List.filter_map]
  rfl
theorem look_seen_some (r : Int) (M : List (Int × Int × Int)) : (look r (M.map fun m => (m.1, seenV m))).isSome = M.any fun m => m.1 == r := by
  unfold look
  rw [List.find?_map, ← List.isSome_find?]
  show (Option.map _ (Option.map _ (M.find? fun m => m.1 == r))).isSome = _
  cases M.find? (fun m => m.1 == r) <;> rfl
theorem look_seen_agg (r : Int) (M : List (Int × Int × Int)) : ∃ x y z : Int, (look r (M.map fun m => (m.1, seenV m))).getD (.agg #[.int .i64 0, .int .i64 0, .int .i64 0]) = .agg #[.int .i64 x, .int .i64 y, .int .i64 z] := by
  unfold look
  rw [List.find?_map]
  show ∃ x y z : Int, (Option.map _ (Option.map _ (M.find? fun m => m.1 == r))).getD _ = _
  cases M.find? (fun m => m.1 == r) with
  | none => exact ⟨0, 0, 0, rfl⟩
  | some m => exact ⟨m.1, m.2.1, m.2.2, rfl⟩

set_option maxHeartbeats 400000 in
theorem leave_nil (w : World) (r : Int) : Calls Try.prog 33 #[.pointer none, .int .i64 r] w fun e w' => e = .returned (.tuple #[.bool false, .int .i64 1]) ∧ w = w' := by
  go_enter Try.func33, Try.ntmps33
  go_wp2
  go_ret2
  exact ⟨rfl, rfl⟩
set_option maxHeartbeats 1000000 in
theorem leave_any (h : Web w B N il S M last bl bp bs) {r : Int} (hr : I64 r) :
    Calls Try.prog 33 #[.pointer (some ⟨B, 0, none⟩), .int .i64 r] w fun e w' => e = .returned (.tuple #[.bool (M.any fun m => m.1 == r), .int .i64 0]) ∧
      Web w' B N il S (M.filter fun m => m.1 != r) last bl bp bs ∧ Turn (· ∈ wb B bl bp bs il) w w' := by
  have h2 := h.cell2
  obtain ⟨x, y, z, hxyz⟩ := look_seen_agg r M
  have hrun := h.seen.look_ok (t := 57) Try.underlying3 Try.underlying57 (zeroS w) hr
  rw [hxyz, look_seen_some] at hrun
  clear hxyz
  have hBl := h.lt (k := B) (by simp [wb])
  have hW1 := h.block (w' := w.alloc (.cells #[.int .i64 x, .int .i64 y, .int .i64 z] 53)) ((Below.refl _ w).alloc (Nat.le_refl _) _)
  have h2' := hW1.cell2
  obtain ⟨w2, hdel, hI, ht⟩ := hW1.seen.drop (t := 57) Try.underlying3 Try.underlying57 hr 0
  rw [del_seen] at hI
  have hW2 := hW1.drop (Turn.of_map ht) hI (Nat.le_refl _)
  have hT : Turn (· ∈ wb B bl bp bs il) w w2 := (Turn.alloc _ w _).trans ((Turn.of_map ht).mono (fun k _ e => by subst e; simp [wb]))
  clear hI ht hW1 h
  go_enter Try.func33, Try.ntmps33
  go_wp2
  go_ret2
  exact ⟨rfl, hW2, hT⟩

theorem ins_last {x : Int} {v : Value} : ∀ {l : List (Int × Value)}, (∀ p ∈ l, p.1 < x) → ins x v l = l ++ [(x, v)]
  | [], _ => rfl
  | (y, u) :: r, h => by
    have h1 := h (y, u) (by simp)
    simp only at h1
    unfold ins
    rw [if_neg (by omega), if_neg (by omega), ins_last fun p hp => h p (List.mem_cons_of_mem _ hp)]
    rfl
/-- A new slice of monitors, as a value. -/
theorem seen_cases {W : World} {base : Nat} {v : Value} {l : List (Int × Int × Int)} (h : NewSeen base W v l) :
    (v = .slice none 0 0 ∧ l = []) ∨ ∃ g cap, v = .slice (some ⟨g, 0, none⟩) l.length cap ∧ base ≤ g ∧ g < W.heap.size := by
  rcases h.1.2 with ⟨rfl, _⟩ | ⟨g, cap, cur, rfl, hb, hh, hc, _⟩
  · exact .inl ⟨rfl, h.2.1 rfl⟩
  · exact .inr ⟨g, cap, rfl, hb, (Array.getElem?_eq_some_iff.1 hh).1⟩

theorem seen_big {W : World} {base : Nat} {v : Value} {l : List (Int × Int × Int)} (h : NewSeen base W v l) (hl : 0 < l.length) : ∃ g cap, v = .slice (some ⟨g, 0, none⟩) l.length cap ∧ base ≤ g ∧ g < W.heap.size := by
  rcases seen_cases h with ⟨_, rfl⟩ | h
  · simp at hl
  · exact h

def watchS (M : List (Int × Int × Int)) (last a b : Int) : Int × Int × List (Int × Int × Int) × Int :=
  if a < 1 ∨ b < 1 then (0, 2, M, last) else if 32 ≤ (M.filter fun m => m.2.1 == a).length then (0, 20, M, last) else (last + 1, 0, M ++ [(last + 1, a, b)], last + 1)

set_option maxHeartbeats 400000 in
theorem watch_nil (w : World) (a b : Int) : Calls Try.prog 31 #[.pointer none, .int .i64 a, .int .i64 b] w fun e w' => e = .returned (.tuple #[.int .i64 0, .int .i64 1]) ∧ w = w' := by
  go_enter Try.func31, Try.ntmps31
  go_wp2
  go_ret2
  exact ⟨rfl, rfl⟩

def WatchPost (w : World) (B N : Nat) (il : List (Int × Nat × List Int)) (S : Int → Int → Bool) (bl bp bs : Nat) (s : Int × Int × List (Int × Int × Int) × Int) (e : Ending) (w' : World) : Prop :=
  e = .returned (.tuple #[.int .i64 s.1, .int .i64 s.2.1]) ∧ Web w' B (N + 1) il S s.2.2.1 s.2.2.2 bl bp bs ∧ Turn (· ∈ wb B bl bp bs il) w w'

set_option maxRecDepth 100000 in
set_option maxHeartbeats 1000000 in
theorem watch_any (h : Web w B N il S M last bl bp bs) (hN : N < BN) (h0 : 0 ≤ last) (h1 : last < BN) (hM : ∀ m ∈ M, m.1 ≤ last) (a b : Int) :
    Calls Try.prog 31 #[.pointer (some ⟨B, 0, none⟩), .int .i64 a, .int .i64 b] w fun e w' => WatchPost w B N il S bl bp bs (watchS M last a b) e w' := by
  by_cases hab : a < 1 ∨ b < 1
  · have hs : watchS M last a b = (0, 2, M, last) := by rw [watchS, if_pos hab]
    rw [hs]
    have hW := h.mono (Nat.le_succ N)
    clear h h1 hN hM hs
    by_cases ha : a < 1
    · clear hab
      go_enter Try.func31, Try.ntmps31
      go_wp2
      go_ret2
      exact ⟨rfl, hW, Turn.refl _ _⟩
    · have hb : b < 1 := hab.resolve_left ha
      clear hab
      go_enter Try.func31, Try.ntmps31
      go_wp2
      go_ret2
      exact ⟨rfl, hW, Turn.refl _ _⟩
  · have ha : 1 ≤ a := by omega
    have hb1 : 1 ≤ b := by omega
    have cW := watches_any h (Nat.le_of_lt hN) a
    have hlast : last < 1099511627776 := h1
    have hk : I64 (last + 1) := by exact WalkArith.wf_i64 (by omega)
    by_cases hf : 32 ≤ (M.filter fun m => m.2.1 == a).length
    · have hs : watchS M last a b = (0, 20, M, last) := by rw [watchS, if_neg hab, if_pos hf]
      rw [hs]
      clear hs hab h1 hN hM hk
      go_enter Try.func31, Try.ntmps31
      go_wp2_with (go_at_call 12; refine cW.mono ?_; rintro e w2 ⟨v, rfl, hv, hb⟩; have hW2 := (h.block hb).mono (Nat.le_succ N); obtain ⟨g, cap, rfl, _, _⟩ := seen_big hv (by omega))
      go_ret2
      exact ⟨rfl, hW2, Turn.of_below hb⟩
    · have hs : watchS M last a b = (last + 1, 0, M ++ [(last + 1, a, b)], last + 1) := by rw [watchS, if_neg hab, if_neg hf]
      rw [hs]
      have hlen : (M.filter fun m => m.2.1 == a).length < 32 := by omega
      have hins : ins (last + 1) (.agg #[.int .i64 (last + 1), .int .i64 a, .int .i64 b]) (M.map fun m => (m.1, seenV m)) = (M ++ [(last + 1, a, b)]).map fun m => (m.1, seenV m) := by
        rw [ins_last]
        · simp [seenV]
        · intro p hp
          obtain ⟨m, hm, rfl⟩ := List.mem_map.1 hp
          have := hM m hm
          simp only; omega
      have HI := Lib.hid hins
      clear hs hab hM hf hins hlast
      go_enter Try.func31, Try.ntmps31
      go_wp2_with (first
        | (go_at_call 12; refine cW.mono ?_; rintro e w2 ⟨v, rfl, hv, hb⟩; have hW2 := h.block hb; obtain ⟨w3, hst, hI3, ht3⟩ := (hW2.setLast (last + 1)).seen.store (t := 57) Try.underlying3 Try.underlying57 (Nat.lt_trans hN (by decide)) hk (.agg #[.int .i64 (last + 1), .int .i64 a, .int .i64 b]); have hc3 := (hW2.setLast (last + 1)).cell2; rcases seen_cases hv with ⟨rfl, _⟩ | ⟨g, cap, rfl, _, _⟩)
        | (go_at_call 34; refine (next_any hW2 h0 (Int.le_of_lt h1)).mono ?_; rintro e w4 ⟨rfl, rfl⟩))
      all_goals
        go_ret2
        rw [HI.out] at hI3
        exact ⟨rfl, (hW2.setLast (last + 1)).drop (Turn.of_map ht3) hI3 (Nat.le_succ N), ((Turn.of_below hb).trans ((Turn.setCell w2 ⟨B, 3, none⟩ (.int .i64 (last + 1))).mono (fun k _ e => by subst e; simp [wb]))).trans ((Turn.of_map ht3).mono (fun k _ e => by subst e; simp [wb]))⟩
end
end Go.Proofs.Ytjkdmdddgiomjaa
