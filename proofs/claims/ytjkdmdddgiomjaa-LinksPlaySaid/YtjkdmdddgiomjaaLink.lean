/-
  The Web's methods Link and Cut. Conditions: the Web lies as 'Web' says; its maps are small.
-/
import Derived.Test.YtjkdmdddgiomjaaSet
namespace Go.Proofs.Ytjkdmdddgiomjaa
open Go.RowKit Go.Maps

section
variable {w w' : World} {B N : Nat} {il : List (Int × Nat × List Int)} {S : Int → Int → Bool} {M : List (Int × Int × Int)} {last : Int} {bl bp bs : Nat}

theorem Web.look_len (h : Web w B N il S M last bl bp bs) {a : Int} (ha : I64 a) : ∃ ma : Option Nat, (∀ n, (Instr.lookup 55 (.map (some bl)) (.int .i64 a) false).run Try.prog (w.drewN n) = .ok (.map ma) (w.drewN n)) ∧
    ∀ n ty, (Builtin.len_ #[65] ty #[.map ma]).run Try.prog (w.drewN n) = .ok (.int .i64 (adj il a).length) (w.drewN n) := by
  cases hq : look a il with
  | none =>
    refine ⟨none, fun n => ?_, fun n ty => ?_⟩
    · have hrun := (h.drewN n).outer.look (t := 55) Try.underlying3 Try.underlying55 (zeroM _) ha
      rw [look_il, hq] at hrun
      exact hrun
    · rw [adj_none hq]
      exact Maps.len_nil Try.underlying65 ty
  | some q =>
    refine ⟨some q.1, fun n => ?_, fun n ty => ?_⟩
    · have hrun := (h.drewN n).outer.look (t := 55) Try.underlying3 Try.underlying55 (zeroM _) ha
      rw [look_il, hq] at hrun
      exact hrun
    · have := ((h.drewN n).inner _ (look_mem hq)).len (t := 65) (e := 4) Try.underlying65 ty
      have e : adj il a = q.2 := by unfold adj; rw [hq]
      rw [e]
      simpa using this

/-- What a method that may link leaves. -/
structure Left (w : World) (B N : Nat) (il : List (Int × Nat × List Int)) (bl bp bs : Nat) (f : Int → List Int) (S : Int → Int → Bool) (M : List (Int × Int × Int)) (last : Int) (w' : World) : Prop where
  web : ∃ il', Web w' B N il' S M last bl bp bs ∧ (∀ z, adj il' z = f z) ∧ (∀ j ∈ il'.map (·.2.1), j ∈ il.map (·.2.1) ∨ w.heap.size ≤ j)
  turn : Turn (· ∈ wb B bl bp bs il) w w'

theorem Web.left (h : Web w B N il S M last bl bp bs) {N' : Nat} (hN : N ≤ N') (ht : Turn (fun _ => False) w w') : Left w B N' il bl bp bs (adj il) S M last w' :=
  ⟨⟨il, (h.keep ht fun _ _ h => h).mono hN, fun _ => rfl, fun _ h => .inl h⟩, ht.mono fun _ _ h => h.elim⟩

def mayB (a b : Int) : Bool := decide (1 ≤ a) && decide (1 ≤ b) && (a != b)
def linkS (a b : Int) (f : Int → List Int) (S : Int → Int → Bool) : Int × (Int → List Int) × (Int → Int → Bool) :=
  if mayB a b = false then (2, f, S) else if S (min a b) (max a b) = false ∧ 64 ≤ max (f a).length (f b).length then (20, f, S) else (0, adj2 true a b f, pairS true (min a b) (max a b) S)
def cutS (a b : Int) (f : Int → List Int) (S : Int → Int → Bool) : Int × (Int → List Int) × (Int → Int → Bool) :=
  if mayB a b = false then (2, f, S) else (0, adj2 false a b f, pairS false (min a b) (max a b) S)

set_option maxHeartbeats 400000 in
theorem link_nil (w : World) (a b : Int) : Calls Try.prog 30 #[.pointer none, .int .i64 a, .int .i64 b] w fun e w' => e = .returned (.int .i64 1) ∧ w = w' := by
  go_enter Try.func30, Try.ntmps30
  go_wp2
  go_ret
  exact ⟨rfl, rfl⟩
set_option maxHeartbeats 400000 in
theorem cut_nil (w : World) (a b : Int) : Calls Try.prog 13 #[.pointer none, .int .i64 a, .int .i64 b] w fun e w' => e = .returned (.int .i64 1) ∧ w = w' := by
  go_enter Try.func13, Try.ntmps13
  go_wp2
  go_ret
  exact ⟨rfl, rfl⟩

set_option maxHeartbeats 400000 in
theorem cut_any (h : Web w B N il S M last bl bp bs) (hN : N + 6 < BN) {a b : Int} (ha : I64 a) (hb : I64 b) :
    Calls Try.prog 13 #[.pointer (some ⟨B, 0, none⟩), .int .i64 a, .int .i64 b] w fun e w' => e = .returned (.int .i64 (cutS a b (adj il) S).1) ∧ Left w B (N + 5) il bl bp bs (cutS a b (adj il) S).2.1 (cutS a b (adj il) S).2.2 M last w' := by
  have cm : Calls Try.prog 39 #[.int .i64 a, .int .i64 b] w fun e w' => e = .returned (.bool (mayB a b)) ∧ w = w' := may_any w a b
  have cs := set_off h hN ha hb
  cases hm : mayB a b <;> rw [hm] at cm
  · have hs : cutS a b (adj il) S = (2, adj il, S) := by rw [cutS, if_pos hm]
    rw [hs]
    have hL := h.left (N' := N + 5) (by omega) (Turn.refl _ w)
    clear h cs hs hm
    go_enter Try.func13, Try.ntmps13
    go_wp2_with (go_at_call 39; refine cm.mono ?_; rintro e w' ⟨rfl, rfl⟩)
    go_ret
    exact ⟨rfl, hL⟩
  · have hs : cutS a b (adj il) S = (0, adj2 false a b (adj il), pairS false (min a b) (max a b) S) := by rw [cutS, if_neg (by simp [hm])]
    rw [hs]
    clear h hs hm
    go_enter Try.func13, Try.ntmps13
    go_wp2_with (first
      | (go_at_call 39; refine cm.mono ?_; rintro e w' ⟨rfl, rfl⟩)
      | (go_at_call 40; refine cs.mono ?_; rintro e w' ⟨rfl, il', h1, h2, h3, h4⟩))
    go_ret
    exact ⟨rfl, ⟨il', h1, h2, h3⟩, h4⟩

set_option maxRecDepth 100000 in
set_option maxHeartbeats 1000000 in
theorem link_any (h : Web w B N il S M last bl bp bs) (hN : N + 6 < BN) {a b : Int} (ha : I64 a) (hb : I64 b) :
    Calls Try.prog 30 #[.pointer (some ⟨B, 0, none⟩), .int .i64 a, .int .i64 b] w fun e w' => e = .returned (.int .i64 (linkS a b (adj il) S).1) ∧ Left w B (N + 5) il bl bp bs (linkS a b (adj il) S).2.1 (linkS a b (adj il) S).2.2 M last w' := by
  have cm : Calls Try.prog 39 #[.int .i64 a, .int .i64 b] w fun e w' => e = .returned (.bool (mayB a b)) ∧ w = w' := may_any w a b
  have hL : ∀ n, Left w B (N + 5) il bl bp bs (adj il) S M last (w.drewN n) := fun n => h.left (N' := N + 5) (by omega) ((Turn.refl _ w).drewN n)
  cases hm : mayB a b <;> rw [hm] at cm
  · have hs : linkS a b (adj il) S = (2, adj il, S) := by rw [linkS, if_pos hm]
    rw [hs]
    clear h hs hm
    go_enter Try.func30, Try.ntmps30
    go_wp2_with (go_at_call 39; refine cm.mono ?_; rintro e w' ⟨rfl, rfl⟩)
    go_ret
    exact ⟨rfl, hL 0⟩
  · have cl : ∀ n, Calls Try.prog 10 #[.pointer (some ⟨B, 0, none⟩), .int .i64 a, .int .i64 b] (w.drewN n) fun e w' => e = .returned (.bool (S (min a b) (max a b))) ∧ w' = w.drewN n := fun n => (linked_any (h.drewN n) ha hb).mono fun _ _ h => ⟨h.1, h.2.symm⟩
    have cs := fun n => set_on (h.drewN n) hN ha hb
    obtain ⟨ma, la, na⟩ := h.look_len ha
    obtain ⟨mb, lb, nb⟩ := h.look_len hb
    have c0 := h.cell0
    cases hS : S (min a b) (max a b)
    · simp only [hS] at cl
      by_cases hf : 64 ≤ max (adj il a).length (adj il b).length
      · have hs : linkS a b (adj il) S = (20, adj il, S) := by rw [linkS, if_neg (by simp [hm]), if_pos ⟨hS, hf⟩]
        rw [hs]
        have hf' : (64 : Int) ≤ max ((adj il a).length : Int) ((adj il b).length : Int) := by omega
        clear h hs hm hS hf
        go_enter Try.func30, Try.ntmps30
        go_wp2_with (go_at_call 39; refine cm.mono ?_; rintro e w' ⟨rfl, rfl⟩)
        go_quiet ((go_at_call 10; exact Calls.quiet_of_same (cl _)))
        go_wp2
        go_ret
        exact ⟨rfl, hL _⟩
      · have hs : linkS a b (adj il) S = (0, adj2 true a b (adj il), pairS true (min a b) (max a b) S) := by rw [linkS, if_neg (by simp [hm]), if_neg (fun h => hf h.2)]
        rw [hs]
        have hf' : max ((adj il a).length : Int) ((adj il b).length : Int) < (64 : Int) := by omega
        clear h hs hm hS hf
        go_enter Try.func30, Try.ntmps30
        go_wp2_with (go_at_call 39; refine cm.mono ?_; rintro e w' ⟨rfl, rfl⟩)
        go_quiet ((go_at_call 10; exact Calls.quiet_of_same (cl _)))
        go_wp2_with (go_at_call 40; refine (cs nq).mono ?_; rintro e w' ⟨rfl, il', h1, h2, h3, h4⟩)
        go_ret
        exact ⟨rfl, ⟨il', h1, h2, h3⟩, ((Turn.refl _ w).drewN nq).trans h4⟩
    · simp only [hS] at cl
      have hs : linkS a b (adj il) S = (0, adj2 true a b (adj il), pairS true (min a b) (max a b) S) := by rw [linkS, if_neg (by simp [hm]), if_neg (fun h => by rw [hS] at h; exact absurd h.1 (by simp))]
      rw [hs]
      clear h hs hm hS
      go_enter Try.func30, Try.ntmps30
      go_wp2_with (go_at_call 39; refine cm.mono ?_; rintro e w' ⟨rfl, rfl⟩)
      go_quiet ((go_at_call 10; exact Calls.quiet_of_same (cl _)))
      go_wp2_with (go_at_call 40; refine (cs nq).mono ?_; rintro e w' ⟨rfl, il', h1, h2, h3, h4⟩)
      go_ret
      exact ⟨rfl, ⟨il', h1, h2, h3⟩, ((Turn.refl _ w).drewN nq).trans h4⟩
end
end Go.Proofs.Ytjkdmdddgiomjaa
