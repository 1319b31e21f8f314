/-
  Slices of binds and of trees that an append made. Conditions: the parts lie as 'Binds', 'Kids' say.
-/
import Derived.Test.YtjnmdbfijdnaiaaGreatDoorBind4
import Derived.ArgAppend
import Derived.Deep.RegionLawGrows
namespace Go.Proofs.YtjnmdbfijdnaiaaGreatDoor
open Go.RowKit

theorem addr_add (g o j : Nat) : Addr.add ⟨g, o, none⟩ j = ⟨g, o + j, none⟩ := by
  unfold Addr.add
  split
  · rename_i h; subst h; rfl
  · rfl
theorem cells_at_new (W : World) (cs : List Value) (e : TypeId) (j : Nat) (u : Value) (h : cs[j]? = some u) : (W.alloc (.cells cs.toArray e)).cell? (Addr.add ⟨W.heap.size, 0, none⟩ j) = some u := by
  rw [addr_add, World.cell?_alloc_at _ _ _ _ (by simp)]
  simp only [List.getElem?_toArray, Nat.zero_add]
  exact h

/-- A bind's six cells. -/
def bcells (q : Bd × Value) : List Value := [.string q.1.s, .int .i8 q.1.t.k, .int .i64 q.1.t.n, .string q.1.t.s, .string q.1.t.t, q.2]
/-- A tree's five cells. -/
def tcells (q : Tr × Value) : List Value := [.int .i8 q.1.k, .int .i64 q.1.n, .string q.1.s, .string q.1.t, q.2]

theorem flat6 : ∀ (L : List (Bd × Value)) (k : Nat) (hk : k < L.length) (j : Nat), j < 6 → (L.flatMap bcells)[k * 6 + j]? = (bcells L[k])[j]?
  | q :: r, 0, _, j, hj => by
    simp only [List.flatMap_cons, Nat.zero_mul, Nat.zero_add, List.getElem_cons_zero]
    rw [List.getElem?_append_left (by simp [bcells]; omega)]
  | q :: r, k + 1, hk, j, hj => by
    have := flat6 r k (by simpa using hk) j hj
    simp only [List.flatMap_cons, List.getElem_cons_succ]
    rw [List.getElem?_append_right (by simp [bcells]; omega)]
    rw [show (k + 1) * 6 + j - (bcells q).length = k * 6 + j from by simp [bcells]; omega]
    exact this
theorem flat5 : ∀ (L : List (Tr × Value)) (k : Nat) (hk : k < L.length) (j : Nat), j < 5 → (L.flatMap tcells)[k * 5 + j]? = (tcells L[k])[j]?
  | q :: r, 0, _, j, hj => by
    simp only [List.flatMap_cons, Nat.zero_mul, Nat.zero_add, List.getElem_cons_zero]
    rw [List.getElem?_append_left (by simp [tcells]; omega)]
  | q :: r, k + 1, hk, j, hj => by
    have := flat5 r k (by simpa using hk) j hj
    simp only [List.flatMap_cons, List.getElem_cons_succ]
    rw [List.getElem?_append_right (by simp [tcells]; omega)]
    rw [show (k + 1) * 5 + j - (tcells q).length = k * 5 + j from by simp [tcells]; omega]
    exact this
theorem flat6_len (L : List (Bd × Value)) : (L.flatMap bcells).length = L.length * 6 := by
  induction L with
  | nil => rfl
  | cons q r ih => simp only [List.flatMap_cons, List.length_append, ih, List.length_cons]; simp [bcells]; omega
theorem flat5_len (L : List (Tr × Value)) : (L.flatMap tcells).length = L.length * 5 := by
  induction L with
  | nil => rfl
  | cons q r ih => simp only [List.flatMap_cons, List.length_append, ih, List.length_cons]; simp [tcells]; omega

/-- Binds that a row of the call's own holds. -/
theorem binds_row {F : Nat → Prop} {w : World} {base : Nat} {v : Value} {L : List (Bd × Value)} {T : TypeId} (h : w.ownsRow base T 6 v L.length (L.flatMap bcells)) (hF : ∀ k, base ≤ k → F k) (hL : ∀ q ∈ L, TrV F w q.1.t q.2 ∧ q.1.s.size ≤ BL * 64) (hb : L.length ≤ BL) :
    Binds F w v (L.map (·.1)) := by
  obtain ⟨_, h1⟩ := h
  rcases h1 with ⟨rfl, h0⟩ | ⟨g, cap, cur, rfl, hg, hh, hc, _, _, ht⟩
  · have : L = [] := List.eq_nil_of_length_eq_zero h0
    subst this
    exact Binds.nil F w
  · have hget : ∀ j, j < L.length * 6 → ∀ u, (L.flatMap bcells)[j]? = some u → w.cell? ⟨g, j, none⟩ = some u := by
      intro j hj u hu
      rw [← ht, List.getElem?_take, if_pos hj] at hu
      simp [World.cell?, hh]
      simpa using hu
    refine ⟨some ⟨g, 0, none⟩, cap, by simp, by simpa using hc, by simpa using hb, fun i hi => ?_, fun e => by cases e⟩
    have hi' : i < L.length := by simpa using hi
    have hm : (L.map (·.1))[i] = L[i].1 := by simp
    have hq := hL L[i] (List.getElem_mem hi')
    have hc := fun j (hj : j < 6) => hget (i * 6 + j) (by omega) 
    rw [hm]
    refine ⟨g, 0, L[i].2, rfl, hF g hg, ?_, hq.2, ⟨?_, ?_, ?_, ?_, ?_⟩, hq.1⟩
    · have := hc 0 (by omega) _ (by rw [flat6 L i hi' 0 (by omega)]; rfl); simpa using this
    · have := hc 1 (by omega) _ (by rw [flat6 L i hi' 1 (by omega)]; rfl); simpa using this
    · have := hc 2 (by omega) _ (by rw [flat6 L i hi' 2 (by omega)]; rfl); simpa using this
    · have := hc 3 (by omega) _ (by rw [flat6 L i hi' 3 (by omega)]; rfl); simpa using this
    · have := hc 4 (by omega) _ (by rw [flat6 L i hi' 4 (by omega)]; rfl); simpa using this
    · have := hc 5 (by omega) _ (by rw [flat6 L i hi' 5 (by omega)]; rfl); simpa using this

/-- Trees that a row of the call's own holds. -/
theorem kids_row {F : Nat → Prop} {w : World} {base : Nat} {v : Value} {L : List (Tr × Value)} {T : TypeId} (h : w.ownsRow base T 5 v L.length (L.flatMap tcells)) (hF : ∀ k, base ≤ k → F k) (hL : ∀ q ∈ L, TrV F w q.1 q.2) (hb : L.length ≤ BL) :
    Kids F w v (L.map (·.1)) := by
  obtain ⟨_, h1⟩ := h
  rcases h1 with ⟨rfl, h0⟩ | ⟨g, cap, cur, rfl, hg, hh, hc, _, _, ht⟩
  · have : L = [] := List.eq_nil_of_length_eq_zero h0
    subst this
    exact Kids.nil F w
  · have hget : ∀ j, j < L.length * 5 → ∀ u, (L.flatMap tcells)[j]? = some u → w.cell? ⟨g, j, none⟩ = some u := by
      intro j hj u hu
      rw [← ht, List.getElem?_take, if_pos hj] at hu
      simp [World.cell?, hh]
      simpa using hu
    have key : Kids F w (.slice (some ⟨g, 0, none⟩) (L.map (·.1)).length cap) (L.map (·.1)) := by
      refine .mk _ cap _ (fun i => ((L[i]?).map (·.2)).getD undef) (by simpa using hc) (by simpa using hb) (fun i hi => ?_) (fun i hi => ?_) (fun i hi => ?_)
      all_goals
        have hi' : i < L.length := by simpa using hi
        have hm : (L.map (·.1))[i] = L[i].1 := by simp
        have hq := hL L[i] (List.getElem_mem hi')
      · rw [hm]; exact hq.wf
      · have hc := fun j (hj : j < 5) => hget (i * 5 + j) (by omega)
        have hsv : ((L[i]?).map (·.2)).getD undef = L[i].2 := by simp [hi']
        rw [hm]
        refine ⟨g, 0, rfl, hF g hg, ⟨?_, ?_, ?_, ?_, ?_⟩⟩
        · have := hc 0 (by omega) _ (by rw [flat5 L i hi' 0 (by omega)]; rfl); simpa using this
        · have := hc 1 (by omega) _ (by rw [flat5 L i hi' 1 (by omega)]; rfl); simpa using this
        · have := hc 2 (by omega) _ (by rw [flat5 L i hi' 2 (by omega)]; rfl); simpa using this
        · have := hc 3 (by omega) _ (by rw [flat5 L i hi' 3 (by omega)]; rfl); simpa using this
        · have := hc 4 (by omega) _ (by rw [flat5 L i hi' 4 (by omega)]; rfl); rw [hsv]; simpa using this
      · have hsv : ((L[i]?).map (·.2)).getD undef = L[i].2 := by simp [hi']
        rw [hsv, hm]; exact hq.kids
    simpa using key

/-- Binds, with their cells in a row. -/
theorem Binds.cells {F : Nat → Prop} {w : World} {p : Option Addr} {n c : Nat} {l : List Bd} (h : Binds F w (.slice p n c) l) : ∃ L : List (Bd × Value), L.map (·.1) = l ∧ (∀ q ∈ L, TrV F w q.1.t q.2 ∧ q.1.s.size ≤ BL * 64) ∧ ∀ b, p = some b → ∀ j u, (L.flatMap bcells)[j]? = some u → w.cell? (b.add j) = some u := by
  have key : ∀ (m : List Bd) (k : Nat), (∀ i (h : i < m.length), BindAt F w p (k + i) m[i]) → ∃ L : List (Bd × Value), L.map (·.1) = m ∧ (∀ q ∈ L, TrV F w q.1.t q.2 ∧ q.1.s.size ≤ BL * 64) ∧ ∀ b, p = some b → ∀ j u, (L.flatMap bcells)[j]? = some u → w.cell? (b.add (k * 6 + j)) = some u := by
    intro m
    induction m with
    | nil => exact fun k _ => ⟨[], rfl, fun q hq => absurd hq (by simp), fun b _ j u hu => by simp at hu⟩
    | cons b m ih =>
      intro k hk
      obtain ⟨L, h1, h2, h3⟩ := ih (k + 1) (fun i hi => by have := hk (i + 1) (by simpa using hi); rwa [show k + (i + 1) = k + 1 + i from by omega] at this)
      obtain ⟨g, o, sv, hp, _, hs, hsz, hn, ht⟩ := hk 0 (by simp)
      refine ⟨(b, sv) :: L, by simp [h1], fun q hq => ?_, fun a ha j u hu => ?_⟩
      · rcases List.mem_cons.1 hq with rfl | hq
        · exact ⟨ht, hsz⟩
        · exact h2 q hq
      · rw [hp] at ha
        cases ha
        simp only [Nat.add_zero, List.getElem_cons_zero] at hs hn
        simp only [List.flatMap_cons] at hu
        rw [addr_add]
        by_cases hj : j < 6
        · rw [List.getElem?_append_left (by simpa [bcells] using hj)] at hu
          obtain ⟨a0, a1, a2, a3, a4⟩ := hn
          match j, hj with
          | 0, _ => simp [bcells] at hu; rw [← hu]; exact hs
          | 1, _ => simp [bcells] at hu; rw [← hu]; exact a0
          | 2, _ => simp [bcells] at hu; rw [← hu]; exact a1
          | 3, _ => simp [bcells] at hu; rw [← hu]; exact a2
          | 4, _ => simp [bcells] at hu; rw [← hu]; exact a3
          | 5, _ => simp [bcells] at hu; rw [← hu]; exact a4
        · rw [List.getElem?_append_right (by simp [bcells]; omega)] at hu
          have := h3 _ hp (j - (bcells (b, sv)).length) u hu
          rw [addr_add] at this
          rw [show o + (k * 6 + j) = o + ((k + 1) * 6 + (j - (bcells (b, sv)).length)) from by simp [bcells]; omega]
          exact this
  obtain ⟨p', c', he, _, _, hx⟩ := h
  cases he
  obtain ⟨L, h1, h2, h3⟩ := key l 0 (fun i hi => by rw [Nat.zero_add]; exact hx.1 i hi)
  exact ⟨L, h1, h2, fun b hb j u hu => by have := h3 b hb j u hu; simpa using this⟩
theorem bcells_plain {F : Nat → Prop} {w : World} {q : Bd × Value} (h : TrV F w q.1.t q.2) : ∀ u ∈ bcells q, u.oneCell' = true := by
  obtain ⟨p, c, e⟩ := h.kids.slice
  intro u hu
  simp only [bcells, List.mem_cons, List.not_mem_nil, or_false] at hu
  rcases hu with rfl | rfl | rfl | rfl | rfl | rfl
  all_goals first | rfl | (rw [e]; rfl)
theorem tcells_plain {F : Nat → Prop} {w : World} {q : Tr × Value} (h : TrV F w q.1 q.2) : ∀ u ∈ tcells q, u.oneCell' = true := by
  obtain ⟨p, c, e⟩ := h.kids.slice
  intro u hu
  simp only [tcells, List.mem_cons, List.not_mem_nil, or_false] at hu
  rcases hu with rfl | rfl | rfl | rfl | rfl
  all_goals first | rfl | (rw [e]; rfl)
end Go.Proofs.YtjnmdbfijdnaiaaGreatDoor
