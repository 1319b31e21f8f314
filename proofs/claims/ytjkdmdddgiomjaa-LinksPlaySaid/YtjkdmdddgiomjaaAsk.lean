/-
  pleachlaw21.ask at a web: what is answered, and what the web is behind it. Conditions: the web lies as 'WebL' says, and keeps 'Inv'.
-/
import Derived.Test.YtjkdmdddgiomjaaNil
namespace Go.Proofs.Ytjkdmdddgiomjaa
open Go.RowKit Go.Maps

/-- A web, as the law sees it. -/
structure PS where
  f : Int → List Int
  S : Int → Int → Bool
  M : List (Int × Int × Int)
  last : Int
/-- What ask answers. -/
structure AR where
  n : Int
  ok : Bool
  l : List Int
  s : List (Int × Int × Int)
  e : Int

def askS (d a b : Int) (p : PS) : AR × PS :=
  if d = 0 then (⟨0, false, [], [], (linkS a b p.f p.S).1⟩, { p with f := (linkS a b p.f p.S).2.1, S := (linkS a b p.f p.S).2.2 })
  else if d = 1 then (⟨0, false, [], [], (cutS a b p.f p.S).1⟩, { p with f := (cutS a b p.f p.S).2.1, S := (cutS a b p.f p.S).2.2 })
  else if d = 2 then (⟨(watchS p.M p.last a b).1, false, [], [], (watchS p.M p.last a b).2.1⟩, { p with M := (watchS p.M p.last a b).2.2.1, last := (watchS p.M p.last a b).2.2.2 })
  else if d = 3 then (⟨0, p.M.any (fun m => m.1 == a), [], [], 0⟩, { p with M := p.M.filter fun m => m.1 != a })
  else if d = 4 then
    if a < 1 then (⟨0, false, [], [], 2⟩, p)
    else (⟨0, false, p.f a, p.M.filter (fun m => m.2.2 == a), 0⟩, { f := (goneF a (p.f a) (p.f, p.S)).1, S := (goneF a (p.f a) (p.f, p.S)).2, M := p.M.filter (fun m => !(m.2.1 == a || m.2.2 == a)), last := p.last })
  else (⟨p.last + 1, false, [], [], 0⟩, { p with last := p.last + 1 })

structure Inv (p : PS) : Prop where
  sym : ∀ a b, b ∈ p.f a ↔ (1 ≤ a ∧ 1 ≤ b ∧ a ≠ b ∧ p.S (min a b) (max a b) = true)
  srt : ∀ a, (p.f a).Pairwise (· < ·)
  len : ∀ a, (p.f a).length ≤ 64
  low : 0 ≤ p.last
  refs : ∀ m ∈ p.M, 1 ≤ m.1 ∧ m.1 ≤ p.last

def WebL (w : World) (B N : Nat) (L : List Nat) (p : PS) : Prop := ∃ il bl bp bs, Web w B N il p.S p.M p.last bl bp bs ∧ (∀ z, adj il z = p.f z) ∧ L = wb B bl bp bs il

theorem WebL.lt {w : World} {B N : Nat} {L : List Nat} {p : PS} (h : WebL w B N L p) {k : Nat} (hk : k ∈ L) : k < w.heap.size := by
  obtain ⟨il, bl, bp, bs, hW, _, rfl⟩ := h
  exact hW.lt hk
theorem WebL.keep {w w' : World} {B N : Nat} {L : List Nat} {p : PS} (h : WebL w B N L p) {T : Nat → Prop} (ht : Turn T w w') (hT : ∀ k ∈ L, ¬ T k) : WebL w' B N L p := by
  obtain ⟨il, bl, bp, bs, hW, ha, rfl⟩ := h
  exact ⟨il, bl, bp, bs, hW.keep ht hT, ha, rfl⟩
theorem WebL.mono {w : World} {B N : Nat} {L : List Nat} {p : PS} (h : WebL w B N L p) {N' : Nat} (hN : N ≤ N') : WebL w B N' L p := by
  obtain ⟨il, bl, bp, bs, hW, ha, rfl⟩ := h
  exact ⟨il, bl, bp, bs, hW.mono hN, ha, rfl⟩

def AskPost (w : World) (B N : Nat) (L : List Nat) (r : AR × PS) (e : Ending) (w' : World) : Prop :=
  ∃ lv sv, e = .returned (.agg #[.int .i64 r.1.n, .bool r.1.ok, lv, sv, .int .i64 r.1.e]) ∧ NewInts w w' lv r.1.l ∧ NewSeen w.heap.size w' sv r.1.s ∧
    (∃ L', WebL w' B (N + 400) L' r.2 ∧ ∀ k ∈ L', k ∈ L ∨ w.heap.size ≤ k) ∧ Turn (· ∈ L) w w'

theorem Turn.set {T : Nat → Prop} {a b : World} (h : Turn T a b) {p : Addr} (hp : T p.block) (u : Value) : Turn T a (b.setCell p u) :=
  h.comp (Turn.setCell b p u) fun k _ e => by subst e; exact hp

/-- The blocks of ask's own. -/
def Mine (w : World) (k : Nat) : Prop := w.heap.size ≤ k ∧ k < w.heap.size + 1 + 1 + 1
theorem Turn.mine {w a b : World} (h : Turn (Mine w) a b) {k i : Nat} (h1 : w.heap.size ≤ k) (h2 : k < w.heap.size + 1 + 1 + 1) (u : Value) : Turn (Mine w) a (b.setCell ⟨k, i, none⟩ u) := h.set (p := ⟨k, i, none⟩) ⟨h1, h2⟩ u

/-- From what the method left to what ask leaves. -/
theorem ask_end {w w' w6 : World} {d a b : Int} {B N : Nat} {L : List Nat} {r : AR × PS} {lv sv : Value} (hL : ∀ k ∈ L, k < w.heap.size) (hl : w'.ownsRow (askW w d a b).heap.size 3 1 lv r.1.l.length (r.1.l.map (Value.int .i64))) (hln : lv = .slice none 0 0 ↔ r.1.l = [])
    (hs : NewSeen (askW w d a b).heap.size w' sv r.1.s) (hw : ∃ L', WebL w' B (N + 400) L' r.2 ∧ ∀ k ∈ L', k ∈ L ∨ (askW w d a b).heap.size ≤ k) (ht : Turn (· ∈ L) (askW w d a b) w') (h6 : Turn (Mine w) w' w6) :
    AskPost w B N L r (.returned (.agg #[.int .i64 r.1.n, .bool r.1.ok, lv, sv, .int .i64 r.1.e])) w6 := by
  have hsz := askW_size w d a b
  have hnm : ∀ k, (askW w d a b).heap.size ≤ k → ¬ Mine w k := fun k hk hm => by have := hm.2; omega
  obtain ⟨L', hW, hf⟩ := hw
  refine ⟨lv, sv, rfl, ⟨ownsRow_base_a (ownsRow_turn hl h6 hnm) (by omega), hln⟩, ⟨ownsRow_base_a (ownsRow_turn hs.1 h6 hnm) (by omega), hs.2⟩, ⟨L', hW.keep h6 (fun k hk hm => ?_), fun k hk => (hf k hk).imp id (by omega)⟩, ?_⟩
  · rcases hf k hk with h | h
    · have := hL k h; have := hm.1; omega
    · exact hnm k h hm
  · refine ((Turn.of_below (askW_below w d a b)).trans ht).comp h6 fun k hk hm => ?_
    have := hm.1; omega

theorem askW_webL {w : World} {d a b : Int} {B N : Nat} {L : List Nat} {p : PS} (h : WebL w B N L p) : WebL (askW w d a b) B N L p := h.keep (T := fun _ => False) (Turn.of_below (askW_below w d a b)) (fun _ _ h => h)
theorem wb_sub {il il' : List (Int × Nat × List Int)} {B bl bp bs n : Nat} (h : ∀ j ∈ il'.map (·.2.1), j ∈ il.map (·.2.1) ∨ n ≤ j) {k : Nat} (hm : k ∈ wb B bl bp bs il') : k ∈ wb B bl bp bs il ∨ n ≤ k := by
  by_cases hk : k < n
  · exact .inl (wb_fresh h hk hm)
  · exact .inr (by omega)
theorem ints_slice {w w' : World} {v : Value} {l : List Int} (h : NewInts w w' v l) : ∃ p n c, v = .slice p n c := by
  rcases h.1.2 with ⟨rfl, _⟩ | ⟨g, cap, _, rfl, _⟩
  · exact ⟨_, _, _, rfl⟩
  · exact ⟨_, _, _, rfl⟩
theorem seen_slice {w' : World} {base : Nat} {v : Value} {l : List (Int × Int × Int)} (h : NewSeen base w' v l) : ∃ p n c, v = .slice p n c := by
  rcases h.1.2 with ⟨rfl, _⟩ | ⟨g, cap, _, rfl, _⟩
  · exact ⟨_, _, _, rfl⟩
  · exact ⟨_, _, _, rfl⟩

set_option maxRecDepth 100000 in
set_option maxHeartbeats 4000000 in
theorem ask_any {w : World} {B N : Nat} {L : List Nat} {p : PS} (h : WebL w B N L p) (hi : Inv p) (hN : N + 400 < BN) (hlast : p.last + 1 < BN) {d a b : Int} (ha : I64 a) (hb : I64 b) :
    Calls Try.prog 9 #[.pointer (some ⟨B, 0, none⟩), .agg #[.int .i64 d, .int .i64 a, .int .i64 b]] w (AskPost w B N L (askS d a b p)) := by
  have hL : ∀ k ∈ L, k < w.heap.size := fun k hk => h.lt hk
  obtain ⟨il, bl, bp, bs, hW0, had, rfl⟩ := h
  have hfun : adj il = p.f := funext had
  have hNB : N ≤ BN := by omega
  have hlen := hi.len a
  have hlow := hi.low
  have hrefs := hi.refs
  have hW : Web (askW w d a b) B N il p.S p.M p.last bl bp bs := hW0.block (askW_below w d a b)
  clear hW0 hi
  have had' := had
  have hnil : ∀ w' : World, w'.ownsRow (askW w d a b).heap.size 3 1 (.slice none 0 0) ([] : List Int).length (([] : List Int).map (Value.int .i64)) := fun w' => World.ownsRow_nil ..
  have hns : ∀ w' : World, NewSeen (askW w d a b).heap.size w' (.slice none 0 0) [] := fun w' => ⟨World.ownsRow_nil .., by simp⟩
  have hmn : ∀ k, ¬ (Mine w k ∧ k ∈ wb B bl bp bs il) := fun k hk => by have := hL k hk.2; have := hk.1.1; omega
  have hT0 : ∀ k, w.heap.size ≤ k → ¬ k ∈ wb B bl bp bs il := fun k hk hm => by have := hL k hm; omega
  have hc : d = 0 ∨ d = 1 ∨ d = 2 ∨ d = 3 ∨ d = 4 ∨ (d ≠ 0 ∧ d ≠ 1 ∧ d ≠ 2 ∧ d ≠ 3 ∧ d ≠ 4) := by omega
  rcases hc with rfl | rfl | rfl | rfl | rfl | ⟨h0, h1, h2, h3, h4⟩
  · have cM := link_any hW (by omega) ha hb
    rw [hfun] at cM
    have hr : askS 0 a b p = (⟨0, false, [], [], (linkS a b p.f p.S).1⟩, { p with f := (linkS a b p.f p.S).2.1, S := (linkS a b p.f p.S).2.2 }) := rfl
    rw [hr]
    have HR := Lib.hid hr
    clear hr
    clear hW had hmn
    go_enter Try.func9, Try.ntmps9
    go_wp2_with (go_at_call 30; refine cM.mono ?_; rintro e w' ⟨rfl, hLeft⟩; obtain ⟨⟨il', hW', ha', hf'⟩, hT⟩ := hLeft; obtain ⟨⟨p0, p1, p2, p3, p4, pf⟩, ⟨q0, q1, q2, q3, q4, qf⟩, hsz⟩ := askBlks hT hT0; have pf0 := pf 0; have pf1 := pf 1; have pf2 := pf 2; have pf3 := pf 3; have pf4 := pf 4; have qf0 := qf 0; have qf1 := qf 1; have qf2 := qf 2; have qf3 := qf 3; have qf4 := qf 4; clear pf qf)
    refine bodyPost_ret (v := .agg #[.int .i64 0, .bool false, .slice none 0 0, .slice none 0 0, .int .i64 (linkS a b p.f p.S).1]) (by simp only [results, Try.results9]; go_simp) rfl ?_
    refine ask_end hL (hnil _) (by simp) (hns _) ⟨_, ⟨_, _, _, _, hW'.mono (by omega), ha', rfl⟩, fun k hk => wb_sub hf' hk⟩ hT ?_
    repeat (with_reducible refine Turn.mine ?_ (by omega) (by omega) _)
    exact Turn.refl _ _
  · have cM := cut_any hW (by omega) ha hb
    rw [hfun] at cM
    have hr : askS 1 a b p = (⟨0, false, [], [], (cutS a b p.f p.S).1⟩, { p with f := (cutS a b p.f p.S).2.1, S := (cutS a b p.f p.S).2.2 }) := rfl
    rw [hr]
    have HR := Lib.hid hr
    clear hr
    clear hW had hmn
    go_enter Try.func9, Try.ntmps9
    go_wp2_with (go_at_call 13; refine cM.mono ?_; rintro e w' ⟨rfl, hLeft⟩; obtain ⟨⟨il', hW', ha', hf'⟩, hT⟩ := hLeft; obtain ⟨⟨p0, p1, p2, p3, p4, pf⟩, ⟨q0, q1, q2, q3, q4, qf⟩, hsz⟩ := askBlks hT hT0; have pf0 := pf 0; have pf1 := pf 1; have pf2 := pf 2; have pf3 := pf 3; have pf4 := pf 4; have qf0 := qf 0; have qf1 := qf 1; have qf2 := qf 2; have qf3 := qf 3; have qf4 := qf 4; clear pf qf)
    refine bodyPost_ret (v := .agg #[.int .i64 0, .bool false, .slice none 0 0, .slice none 0 0, .int .i64 (cutS a b p.f p.S).1]) (by simp only [results, Try.results9]; go_simp) rfl ?_
    refine ask_end hL (hnil _) (by simp) (hns _) ⟨_, ⟨_, _, _, _, hW'.mono (by omega), ha', rfl⟩, fun k hk => wb_sub hf' hk⟩ hT ?_
    repeat (with_reducible refine Turn.mine ?_ (by omega) (by omega) _)
    exact Turn.refl _ _
  · have cM := watch_any hW (by omega) hlow (by omega) (fun m hm => (hrefs m hm).2) a b
    have hr : askS 2 a b p = (⟨(watchS p.M p.last a b).1, false, [], [], (watchS p.M p.last a b).2.1⟩, { p with M := (watchS p.M p.last a b).2.2.1, last := (watchS p.M p.last a b).2.2.2 }) := rfl
    rw [hr]
    have HR := Lib.hid hr
    clear hr
    clear hW had hmn
    go_enter Try.func9, Try.ntmps9
    go_wp2_with (go_at_call 31; refine cM.mono ?_; rintro e w' ⟨rfl, hW', hT⟩; have ha' := had'; have hf' : ∀ j ∈ il.map (·.2.1), j ∈ il.map (·.2.1) ∨ (askW w 2 a b).heap.size ≤ j := fun j hj => .inl hj; obtain ⟨⟨p0, p1, p2, p3, p4, pf⟩, ⟨q0, q1, q2, q3, q4, qf⟩, hsz⟩ := askBlks hT hT0; have pf0 := pf 0; have pf1 := pf 1; have pf2 := pf 2; have pf3 := pf 3; have pf4 := pf 4; have qf0 := qf 0; have qf1 := qf 1; have qf2 := qf 2; have qf3 := qf 3; have qf4 := qf 4; clear pf qf)
    refine bodyPost_ret (v := .agg #[.int .i64 (watchS p.M p.last a b).1, .bool false, .slice none 0 0, .slice none 0 0, .int .i64 (watchS p.M p.last a b).2.1]) (by simp only [results, Try.results9]; go_simp) rfl ?_
    refine ask_end hL (hnil _) (by simp) (hns _) ⟨_, ⟨_, _, _, _, hW'.mono (by omega), ha', rfl⟩, fun k hk => wb_sub hf' hk⟩ hT ?_
    repeat (with_reducible refine Turn.mine ?_ (by omega) (by omega) _)
    exact Turn.refl _ _
  · have cM := leave_any hW ha
    have hr : askS 3 a b p = (⟨0, p.M.any (fun m => m.1 == a), [], [], 0⟩, { p with M := p.M.filter fun m => m.1 != a }) := rfl
    rw [hr]
    have HR := Lib.hid hr
    clear hr
    clear hW had hmn
    go_enter Try.func9, Try.ntmps9
    go_wp2_with (go_at_call 33; refine cM.mono ?_; rintro e w' ⟨rfl, hW', hT⟩; have ha' := had'; have hf' : ∀ j ∈ il.map (·.2.1), j ∈ il.map (·.2.1) ∨ (askW w 3 a b).heap.size ≤ j := fun j hj => .inl hj; obtain ⟨⟨p0, p1, p2, p3, p4, pf⟩, ⟨q0, q1, q2, q3, q4, qf⟩, hsz⟩ := askBlks hT hT0; have pf0 := pf 0; have pf1 := pf 1; have pf2 := pf 2; have pf3 := pf 3; have pf4 := pf 4; have qf0 := qf 0; have qf1 := qf 1; have qf2 := qf 2; have qf3 := qf 3; have qf4 := qf 4; clear pf qf)
    refine bodyPost_ret (v := .agg #[.int .i64 0, .bool (p.M.any fun m => m.1 == a), .slice none 0 0, .slice none 0 0, .int .i64 0]) (by simp only [results, Try.results9]; go_simp) rfl ?_
    refine ask_end hL (hnil _) (by simp) (hns _) ⟨_, ⟨_, _, _, _, hW'.mono (by omega), ha', rfl⟩, fun k hk => wb_sub hf' hk⟩ hT ?_
    repeat (with_reducible refine Turn.mine ?_ (by omega) (by omega) _)
    exact Turn.refl _ _
  · by_cases ha1 : a < 1
    · have cM := gone_arg B (askW w 4 a b) a ha1
      have hr : askS 4 a b p = (if a < 1 then (⟨0, false, [], [], 2⟩, p) else (⟨0, false, p.f a, p.M.filter (fun m => m.2.2 == a), 0⟩, { f := (goneF a (p.f a) (p.f, p.S)).1, S := (goneF a (p.f a) (p.f, p.S)).2, M := p.M.filter (fun m => !(m.2.1 == a || m.2.2 == a)), last := p.last })) := rfl
      rw [hr, if_pos ha1]
      have hWg := hW
      have HR := Lib.hid hr
      clear hr
      clear hW had hmn
      have HWg := Lib.hid hWg
      clear hWg
      go_enter Try.func9, Try.ntmps9
      go_wp2_with (go_at_call 32; refine cM.mono ?_; rintro e w' ⟨rfl, hb1⟩; have hT : Turn (· ∈ wb B bl bp bs il) (askW w 4 a b) w' := Turn.of_below hb1; obtain ⟨⟨p0, p1, p2, p3, p4, pf⟩, ⟨q0, q1, q2, q3, q4, qf⟩, hsz⟩ := askBlks hT hT0; have pf0 := pf 0; have pf1 := pf 1; have pf2 := pf 2; have pf3 := pf 3; have pf4 := pf 4; have qf0 := qf 0; have qf1 := qf 1; have qf2 := qf 2; have qf3 := qf 3; have qf4 := qf 4; clear pf qf)
      refine bodyPost_ret (v := .agg #[.int .i64 0, .bool false, .slice none 0 0, .slice none 0 0, .int .i64 2]) (by simp only [results, Try.results9]; go_simp) rfl ?_
      have hT' : Turn (fun k => ¬ k ∈ wb B bl bp bs il) (askW w 4 a b) w' := Turn.of_below hb1
      refine ask_end hL (hnil _) (by simp) (hns _) ⟨_, ⟨il, bl, bp, bs, (HWg.out.keep hT' fun k hk h => h hk).mono (by omega), had', rfl⟩, fun k hk => .inl hk⟩ hT ?_
      repeat (with_reducible refine Turn.mine ?_ (by omega) (by omega) _)
      exact Turn.refl _ _
    · have cM := gone_any hW (by rw [hfun]; omega) ha (by omega)
      have hr0 := ha1
      have hr : askS 4 a b p = (if a < 1 then (⟨0, false, [], [], 2⟩, p) else (⟨0, false, p.f a, p.M.filter (fun m => m.2.2 == a), 0⟩, { f := (goneF a (p.f a) (p.f, p.S)).1, S := (goneF a (p.f a) (p.f, p.S)).2, M := p.M.filter (fun m => !(m.2.1 == a || m.2.2 == a)), last := p.last })) := rfl
      rw [hr, if_neg ha1]
      have HR := Lib.hid hr
      clear hr
      clear hW had hmn
      go_enter Try.func9, Try.ntmps9
      go_wp2_with (go_at_call 32; refine cM.mono ?_; rintro e w' ⟨v, v3, rfl, hv, hv3, hLeft⟩; obtain ⟨⟨il', hW', ha', hf'⟩, hT⟩ := hLeft; rw [hfun] at hv hW' ha'; obtain ⟨pv, nv, cv, rfl⟩ := ints_slice hv; obtain ⟨ps, ns, cs, rfl⟩ := seen_slice hv3; obtain ⟨⟨p0, p1, p2, p3, p4, pf⟩, ⟨q0, q1, q2, q3, q4, qf⟩, hsz⟩ := askBlks hT hT0; have pf0 := pf 0; have pf1 := pf 1; have pf2 := pf 2; have pf3 := pf 3; have pf4 := pf 4; have qf0 := qf 0; have qf1 := qf 1; have qf2 := qf 2; have qf3 := qf 3; have qf4 := qf 4; clear pf qf)
      refine bodyPost_ret (v := .agg #[.int .i64 0, .bool false, .slice pv nv cv, .slice ps ns cs, .int .i64 0]) (by simp only [results, Try.results9]; go_simp) rfl ?_
      refine ask_end hL hv.1 hv.2 hv3 ⟨_, ⟨_, _, _, _, hW'.mono (by omega), ha', rfl⟩, fun k hk => wb_sub hf' hk⟩ hT ?_
      repeat (with_reducible refine Turn.mine ?_ (by omega) (by omega) _)
      exact Turn.refl _ _
  · have cM := next_any hW hlow (by omega)
    have hWg := hW.setLast (p.last + 1)
    have hr : askS d a b p = (⟨p.last + 1, false, [], [], 0⟩, { p with last := p.last + 1 }) := by simp [askS, h0, h1, h2, h3, h4]
    rw [hr]
    have HR := Lib.hid hr
    clear hr
    clear hW had hmn
    go_enter Try.func9, Try.ntmps9
    go_wp2_with (go_at_call 34; refine cM.mono ?_; rintro e w' ⟨rfl, rfl⟩; have hT : Turn (· ∈ wb B bl bp bs il) (askW w d a b) ((askW w d a b).setCell ⟨B, 3, none⟩ (.int .i64 (p.last + 1))) := (Turn.setCell _ _ _).mono (fun k _ e => by subst e; simp [wb]); generalize (askW w d a b).setCell ⟨B, 3, none⟩ (.int .i64 (p.last + 1)) = w9 at hT hWg ⊢; obtain ⟨⟨p0, p1, p2, p3, p4, pf⟩, ⟨q0, q1, q2, q3, q4, qf⟩, hsz⟩ := askBlks hT hT0; have pf0 := pf 0; have pf1 := pf 1; have pf2 := pf 2; have pf3 := pf 3; have pf4 := pf 4; have qf0 := qf 0; have qf1 := qf 1; have qf2 := qf 2; have qf3 := qf 3; have qf4 := qf 4; clear pf qf)
    refine bodyPost_ret (v := .agg #[.int .i64 (p.last + 1), .bool false, .slice none 0 0, .slice none 0 0, .int .i64 0]) (by simp only [results, Try.results9]; go_simp) rfl ?_
    refine ask_end hL (hnil _) (by simp) (hns _) ⟨_, ⟨il, bl, bp, bs, hWg.mono (by omega), had', rfl⟩, fun k hk => .inl hk⟩ hT ?_
    repeat (with_reducible refine Turn.mine ?_ (by omega) (by omega) _)
    exact Turn.refl _ _
end Go.Proofs.Ytjkdmdddgiomjaa
