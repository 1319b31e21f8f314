/-
  Items of a mailbox as they lie in memory; rows of items that the call makes. Names no function of the program. Conditions: the items lie as 'Items' says.
  mail.same, pleachlaw17.Great, mail.Users, pleachref17.Users. Conditions: the trees lie as 'TrV' says, the items as 'Items'.
  mail.is, pleachref17.is, pleachref03.IsAtom; pleachlaw17.Great. Conditions: the trees lie as 'TrV' says, the items as 'Items'.
  pleachref17.is; mail.Users, pleachref17.Users. Conditions: the trees lie as 'TrV' says, the items as 'Items'.
  mail.First, pleachref17.First; mail.Without, pleachref17.Without. Conditions: the trees lie as 'TrV' says, the items as 'Items'.
  pleachref17.First; mail.Without, pleachref17.Without. Conditions: the trees lie as 'TrV' says, the items as 'Items'.
  pleachref17.Without, Same; mail.Same. Conditions: the trees lie as 'TrV' says, the items as 'Items'.
  mail.Same and its closure, which counts. Conditions: the items lie as 'Items' says.
  mail.Take, pleachref17.Take. Conditions: the items lie as 'Items' says.
  pleachref17.Take. Conditions: the items lie as 'Items' says.
  ast.Guard at a guard of no tests. Conditions: the terms lie as 'TrV' says.
  guard.Holds at a guard of no tests; mail.clause. Conditions: the trees lie as 'TrV' says, the binds as 'Binds'.
  mail.Select's two searches. Conditions: the trees lie as 'TrV' says, the items as 'Items'.
  mail.Select. Conditions: the trees lie as 'TrV' says, the items as 'Items', the names as 'Binds'; what ast.Guard and guard.Holds answer at the clauses' guards.
  pleachlaw17.item, takes. Conditions: the pattern lies as 'TrV' says.
  What pleachlaw17.wakes asks, as plain law: the mailbox of three and its two clauses. Names no function of the program.
  pleachlaw17.wakes. Conditions: the letters' table is laid.
-/
import Derived.Test.YtlhobpknflobgaaGreatDoorS19
import Derived.Test.YtlhobpknflobgaaGreatDoorS20
import Derived.Test.YtlhobpknflobgaaGreatDoorGm0
import Derived.Test.YtlhobpknflobgaaGreatDoorS23
import Derived.Laws.AppendOwnNone
import Derived.BigQuiet
import Derived.Deep.RegionHeld3
import Derived.Deep.RegionLawGrows
import Derived.Laws.ResultCell
import Derived.BigRegion
namespace Go.Proofs.YtlhobpknflobgaaGreatDoor
open Go.RowKit

/-- An item: a term, and whether it is ours. -/
structure It where
  t : Tr
  o : Bool
/-- An item's six cells. -/
def icells (q : It × Value) : List Value := [.int .i8 q.1.t.k, .int .i64 q.1.t.n, .string q.1.t.s, .string q.1.t.t, q.2, .bool q.1.o]
def ItemAt (F : Nat → Prop) (w : World) (p : Option Addr) (i : Nat) (x : It) : Prop := ∃ g o sv, p = some ⟨g, o, none⟩ ∧ F g ∧ NodeAt w g (o + i * 6) x.t sv ∧ w.cell? ⟨g, o + i * 6 + 5, none⟩ = some (.bool x.o) ∧ TrV F w x.t sv
/-- A slice of items. -/
def Items (F : Nat → Prop) (w : World) (v : Value) (l : List It) : Prop := ∃ p c, v = .slice p l.length c ∧ l.length ≤ c ∧ l.length ≤ BL ∧ (∀ i (h : i < l.length), ItemAt F w p i l[i]) ∧ (p = none → c = 0)
theorem ItemAt.keep {F : Nat → Prop} {w w' : World} {p : Option Addr} {i : Nat} {x : It} (h : ItemAt F w p i x) (hb : ∀ g, F g → g < w.heap.size → w'.heap[g]? = w.heap[g]?) : ItemAt F w' p i x := by
  obtain ⟨g, o, sv, h1, h2, h3, h4, h5⟩ := h
  exact ⟨g, o, sv, h1, h2, h3.keep (hb g h2 h3.lt), (World.cell?_of_block (a := ⟨g, o + i * 6 + 5, none⟩) (hb g h2 (cell_block h4))).trans h4, h5.wf, h5.kids.keep hb⟩
theorem Items.keep {F : Nat → Prop} {w w' : World} {v : Value} {l : List It} (h : Items F w v l) (hb : ∀ g, F g → g < w.heap.size → w'.heap[g]? = w.heap[g]?) : Items F w' v l := by
  obtain ⟨p, c, h1, h2, h3, h4⟩ := h
  exact ⟨p, c, h1, h2, h3, fun i hi => (h4.1 i hi).keep hb, h4.2⟩
theorem Items.under {F : Nat → Prop} {w w' : World} {v : Value} {l : List It} (h : Items F w v l) (hb : Below w.heap.size w w') : Items F w' v l := h.keep fun g _ hg => hb.block g hg
theorem Items.mono {F F' : Nat → Prop} {w : World} {v : Value} {l : List It} (h : Items F w v l) (hF : ∀ g, F g → g < w.heap.size → F' g) : Items F' w v l := by
  obtain ⟨p, c, h1, h2, h3, h4⟩ := h
  refine ⟨p, c, h1, h2, h3, fun i hi => ?_, h4.2⟩
  obtain ⟨g, o, sv, k1, k2, k3, k4, k5⟩ := h4.1 i hi
  exact ⟨g, o, sv, k1, hF g k2 k3.lt, k3, k4, k5.wf, k5.kids.mono hF⟩
theorem Items.nil (F : Nat → Prop) (w : World) : Items F w (.slice none 0 0) [] := ⟨none, 0, rfl, Nat.le_refl _, Nat.zero_le _, fun i hi => absurd hi (by simp), fun _ => rfl⟩
theorem Items.slice {F : Nat → Prop} {w : World} {v : Value} {l : List It} (h : Items F w v l) : ∃ p c, v = .slice p l.length c := by
  obtain ⟨p, c, h1, _⟩ := h
  exact ⟨p, c, h1⟩
theorem Items.len {F : Nat → Prop} {w : World} {v : Value} {l : List It} (h : Items F w v l) : l.length ≤ BL := by
  obtain ⟨p, c, _, _, h, _⟩ := h
  exact h
theorem Items.room {F : Nat → Prop} {w : World} {p : Option Addr} {n c : Nat} {l : List It} (h : Items F w (.slice p n c) l) : n = l.length ∧ l.length ≤ c := by
  obtain ⟨p', c', he, h1, _⟩ := h
  cases he
  exact ⟨rfl, h1⟩
theorem Items.at {F : Nat → Prop} {w : World} {p : Option Addr} {n c : Nat} {l : List It} (h : Items F w (.slice p n c) l) {i : Nat} (hi : i < l.length) : ItemAt F w p i l[i] := by
  obtain ⟨p', c', he, _, _, hx⟩ := h
  cases he
  exact hx.1 i hi
theorem Items.none {F : Nat → Prop} {w : World} {n c : Nat} {l : List It} (h : Items F w (.slice Option.none n c) l) : l.length = 0 ∧ c = 0 := by
  obtain ⟨p', c', he, _, _, hx, h0⟩ := h
  cases he
  refine ⟨?_, h0 rfl⟩
  by_cases hl : 0 < l.length
  · obtain ⟨g, o, sv, e, _⟩ := hx 0 hl
    cases e
  · omega
theorem Items.front {F : Nat → Prop} {w : World} {p : Option Addr} {n c : Nat} {l m : List It} (h : Items F w (.slice p n c) (l ++ m)) (c2 : Nat) (h2 : l.length ≤ c2) (h3 : p = Option.none → c2 = 0) : Items F w (.slice p l.length c2) l := by
  obtain ⟨p', c', he, k1, k2, k3, k4⟩ := h
  cases he
  rw [List.length_append] at k1 k2
  refine ⟨p, c2, rfl, h2, by omega, fun i hi => ?_, h3⟩
  have := k3 i (by rw [List.length_append]; omega)
  rwa [List.getElem_append_left hi] at this
theorem Items.back {F : Nat → Prop} {w : World} {ad : Addr} {n c : Nat} {l m : List It} (h : Items F w (.slice (some ad) n c) (l ++ m)) : Items F w (.slice (some (ad.add (l.length * 6))) m.length (c - l.length)) m := by
  obtain ⟨p', c', he, h1, h2, h3, h4⟩ := h
  cases he
  rw [List.length_append] at h1 h2
  refine ⟨_, _, rfl, by omega, by omega, fun i hi => ?_, fun e => by cases e⟩
  obtain ⟨g, o, sv, k1, k2, k3, k4, k5⟩ := h3 (l.length + i) (by rw [List.length_append]; omega)
  rw [List.getElem_append_right (by omega)] at k3 k4 k5
  simp only [Nat.add_sub_cancel_left] at k3 k4 k5
  rw [Nat.add_mul, ← Nat.add_assoc] at k3 k4
  cases k1
  exact ⟨g, o + l.length * 6, sv, by rw [addr_add], k2, k3, k4, k5⟩
theorem flat6i : ∀ (L : List (It × Value)) (k : Nat) (hk : k < L.length) (j : Nat), j < 6 → (L.flatMap icells)[k * 6 + j]? = (icells L[k])[j]?
  | q :: r, 0, _, j, hj => by
    simp only [List.flatMap_cons, Nat.zero_mul, Nat.zero_add, List.getElem_cons_zero]
    rw [List.getElem?_append_left (by simp [icells]; omega)]
  | q :: r, k + 1, hk, j, hj => by
    have := flat6i r k (by simpa using hk) j hj
    simp only [List.flatMap_cons, List.getElem_cons_succ]
    rw [List.getElem?_append_right (by simp [icells]; omega)]
    rw [show (k + 1) * 6 + j - (icells q).length = k * 6 + j from by simp [icells]; omega]
    exact this
theorem flat6i_len (L : List (It × Value)) : (L.flatMap icells).length = L.length * 6 := by
  induction L with
  | nil => rfl
  | cons q r ih => simp only [List.flatMap_cons, List.length_append, ih, List.length_cons]; simp [icells]; omega
theorem items_row {F : Nat → Prop} {w : World} {base : Nat} {v : Value} {L : List (It × Value)} {T : TypeId} (h : w.ownsRow base T 6 v L.length (L.flatMap icells)) (hF : ∀ k, base ≤ k → F k) (hL : ∀ q ∈ L, TrV F w q.1.t q.2) (hb : L.length ≤ BL) :
    Items F w v (L.map (·.1)) := by
  obtain ⟨_, h1⟩ := h
  rcases h1 with ⟨rfl, h0⟩ | ⟨g, cap, cur, rfl, hg, hh, hc, _, _, ht⟩
  · have : L = [] := List.eq_nil_of_length_eq_zero h0
    subst this
    exact Items.nil F w
  · have hget : ∀ j, j < L.length * 6 → ∀ u, (L.flatMap icells)[j]? = some u → w.cell? ⟨g, j, none⟩ = some u := by
      intro j hj u hu
      rw [← ht, List.getElem?_take, if_pos hj] at hu
      simp [World.cell?, hh]
      simpa using hu
    refine ⟨some ⟨g, 0, none⟩, cap, by simp, by simpa using hc, by simpa using hb, fun i hi => ?_, fun e => by cases e⟩
    have hi' : i < L.length := by simpa using hi
    have hm : (L.map (·.1))[i] = L[i].1 := by simp
    have hq := hL L[i] (List.getElem_mem hi')
    have hc := fun j (hj : j < 6) => hget (i * 6 + j) (by omega) 
    rw [hm]
    refine ⟨g, 0, L[i].2, rfl, hF g hg, ⟨?_, ?_, ?_, ?_, ?_⟩, ?_, hq⟩
    · have := hc 0 (by omega) _ (by rw [flat6i L i hi' 0 (by omega)]; rfl); simpa using this
    · have := hc 1 (by omega) _ (by rw [flat6i L i hi' 1 (by omega)]; rfl); simpa using this
    · have := hc 2 (by omega) _ (by rw [flat6i L i hi' 2 (by omega)]; rfl); simpa using this
    · have := hc 3 (by omega) _ (by rw [flat6i L i hi' 3 (by omega)]; rfl); simpa using this
    · have := hc 4 (by omega) _ (by rw [flat6i L i hi' 4 (by omega)]; rfl); simpa using this
    · have := hc 5 (by omega) _ (by rw [flat6i L i hi' 5 (by omega)]; rfl); simpa using this
/-- Items, with their cells in a row. -/
theorem Items.cells {F : Nat → Prop} {w : World} {p : Option Addr} {n c : Nat} {l : List It} (h : Items F w (.slice p n c) l) : ∃ L : List (It × Value), L.map (·.1) = l ∧ (∀ q ∈ L, TrV F w q.1.t q.2) ∧ ∀ b, p = some b → ∀ j u, (L.flatMap icells)[j]? = some u → w.cell? (b.add j) = some u := by
  have key : ∀ (m : List It) (k : Nat), (∀ i (h : i < m.length), ItemAt F w p (k + i) m[i]) → ∃ L : List (It × Value), L.map (·.1) = m ∧ (∀ q ∈ L, TrV F w q.1.t q.2) ∧ ∀ b, p = some b → ∀ j u, (L.flatMap icells)[j]? = some u → w.cell? (b.add (k * 6 + j)) = some u := by
    intro m
    induction m with
    | nil => exact fun k _ => ⟨[], rfl, fun q hq => absurd hq (by simp), fun b _ j u hu => by simp at hu⟩
    | cons b m ih =>
      intro k hk
      obtain ⟨L, h1, h2, h3⟩ := ih (k + 1) (fun i hi => by have := hk (i + 1) (by simpa using hi); rwa [show k + (i + 1) = k + 1 + i from by omega] at this)
      obtain ⟨g, o, sv, hp, _, hn, hs, ht⟩ := hk 0 (by simp)
      refine ⟨(b, sv) :: L, by simp [h1], fun q hq => ?_, fun a ha j u hu => ?_⟩
      · rcases List.mem_cons.1 hq with rfl | hq
        · exact ht
        · exact h2 q hq
      · rw [hp] at ha
        cases ha
        simp only [Nat.add_zero, List.getElem_cons_zero] at hs hn
        simp only [List.flatMap_cons] at hu
        rw [addr_add]
        by_cases hj : j < 6
        · rw [List.getElem?_append_left (by simpa [icells] using hj)] at hu
          obtain ⟨a0, a1, a2, a3, a4⟩ := hn
          match j, hj with
          | 0, _ => simp [icells] at hu; rw [← hu]; exact a0
          | 1, _ => simp [icells] at hu; rw [← hu]; exact a1
          | 2, _ => simp [icells] at hu; rw [← hu]; exact a2
          | 3, _ => simp [icells] at hu; rw [← hu]; exact a3
          | 4, _ => simp [icells] at hu; rw [← hu]; exact a4
          | 5, _ => simp [icells] at hu; rw [← hu]; exact hs
        · rw [List.getElem?_append_right (by simp [icells]; omega)] at hu
          have := h3 _ hp (j - (icells (b, sv)).length) u hu
          rw [addr_add] at this
          rw [show o + (k * 6 + j) = o + ((k + 1) * 6 + (j - (icells (b, sv)).length)) from by simp [icells]; omega]
          exact this
  obtain ⟨p', c', he, _, _, hx⟩ := h
  cases he
  obtain ⟨L, h1, h2, h3⟩ := key l 0 (fun i hi => by rw [Nat.zero_add]; exact hx.1 i hi)
  exact ⟨L, h1, h2, fun b hb j u hu => by have := h3 b hb j u hu; simpa using this⟩
theorem icells_plain {F : Nat → Prop} {w : World} {q : It × Value} (h : TrV F w q.1.t q.2) : ∀ u ∈ icells q, u.oneCell' = true := by
  obtain ⟨p, c, e⟩ := h.kids.slice
  intro u hu
  simp only [icells, List.mem_cons, List.not_mem_nil, or_false] at hu
  rcases hu with rfl | rfl | rfl | rfl | rfl | rfl
  all_goals first | rfl | (rw [e]; rfl)
theorem infoItem : (Tryz.prog.info? 65).map (fun i => (i.zero, i.size, i.bytes)) = some (some (.agg #[.int .i8 0, .int .i64 0, .string ⟨#[]⟩, .string ⟨#[]⟩, .slice none 0 0, .bool false]), 6, 80) := by kernel_rfl

/-- A row of items that the call makes; their terms lie ahead of it. -/
structure IRow (base : Nat) (w : World) (v : Value) (L : List (It × Value)) : Prop where
  own : w.ownsRow base 65 6 v L.length (L.flatMap icells)
  at_ : ∀ q ∈ L, TrV (fun g => g < base) w q.1.t q.2
theorem IRow.nil (base : Nat) (w : World) : IRow base w (.slice none 0 0) [] := ⟨World.ownsRow_nil .., fun q hq => by simp at hq⟩
theorem IRow.items {base : Nat} {w : World} {v : Value} {L : List (It × Value)} (h : IRow base w v L) (hl : L.length ≤ BL) : Items (fun _ => True) w v (L.map (·.1)) :=
  items_row h.own (fun _ _ => trivial) (fun q hq => ⟨(h.at_ q hq).wf, (h.at_ q hq).kids.mono fun _ _ _ => trivial⟩) hl
theorem IRow.under {base : Nat} {w w' : World} {v : Value} {L : List (It × Value)} (h : IRow base w v L) (hb : Below w.heap.size w w') : IRow base w' v L := ⟨row_under h.own hb, fun q hq => (h.at_ q hq).below hb⟩
theorem IRow.slice {base : Nat} {w : World} {v : Value} {L : List (It × Value)} (h : IRow base w v L) : ∃ q c, v = .slice q L.length c := row_shape h.own
theorem IRow.push {base : Nat} {w w' : World} {v v' : Value} {L : List (It × Value)} {b : It} {sv : Value} (h : IRow base w v L) (hx : TrV (fun g => g < base) w b.t sv) (hown : w'.ownsRow base 65 6 v' (L.length + 1) (L.flatMap icells ++ icells (b, sv))) (hb : Below base w w') :
    IRow base w' v' (L ++ [(b, sv)]) := by
  refine ⟨by rw [List.length_append, List.flatMap_append]; simpa using hown, fun q hq => ?_⟩
  have hq' : TrV (fun g => g < base) w q.1.t q.2 := by
    rcases List.mem_append.1 hq with hq | hq
    · exact h.at_ q hq
    · simp only [List.mem_singleton] at hq; subst hq; exact hx
  exact ⟨hq'.wf, hq'.kids.keep fun g hg' hl => hb.block g hg'⟩
set_option maxRecDepth 10000 in
/-- An append of items to a row of the call's own, as the machine runs it. -/
theorem run_append_items {w : World} (ty : TypeId) (base : Nat) (v : Value) (L : List (It × Value)) (hrow : IRow base w v L) (p : Option Addr) (n c : Nat) (l : List It) (hsrc : Items (fun g => g < base) w (.slice p n c) l)
    (hlen : L.length + l.length ≤ 1048576) (hbase : base ≤ w.heap.size) :
    ∃ v' w' L', (Builtin.append_ #[55, 55] ty #[v, .slice p n c]).run Tryz.prog w = .ok v' w' ∧ IRow base w' v' (L ++ L') ∧ L'.map (·.1) = l ∧ Below base w w' := by
  obtain ⟨i0, hi, hz0, hz1, hz2⟩ := info_parts infoItem
  obtain ⟨Ls, hLm, hLt, hLc⟩ := hsrc.cells
  have hLl : Ls.length = l.length := by rw [← hLm, List.length_map]
  have hn : n = l.length := hsrc.room.1
  cases p with
  | none =>
    obtain ⟨h1, h2⟩ := hsrc.none
    obtain rfl : Ls = [] := List.eq_nil_of_length_eq_zero (by omega)
    obtain rfl : c = 0 := h2
    obtain rfl : n = 0 := by omega
    exact ⟨v, w, [], run_append_owned_none (P := Tryz.prog) (w := w) base 55 ty 65 i0 6 Tryz.underlying55 hi v L.length (L.flatMap icells) hrow.own, by rw [List.append_nil]; exact hrow, hLm, Below.refl _ _⟩
  | some ad =>
    obtain ⟨v', w', hr, hown, hg, _⟩ := run_append_own (P := Tryz.prog) w base 55 ty 65 i0 _ 6 80 Tryz.underlying55 hi hz0 hz1 hz2 rfl (by decide) v L.length (L.flatMap icells) hrow.own ad n c (Ls.flatMap icells) (by rw [flat6i_len, hLl, hn]) (hLc ad rfl)
      (fun u hu => by obtain ⟨q, hq, hu⟩ := List.mem_flatMap.1 hu; exact icells_plain (hLt q hq) u hu) (by unfold maxLen; omega) (by omega) hbase
    have hB : Below base w w' := (Below.refl _ _).grown hg hbase (row_base hrow.own)
    refine ⟨v', w', Ls, hr, ⟨by rw [List.length_append, List.flatMap_append, hLl, ← hn]; exact hown, fun q hq => ?_⟩, hLm, hB⟩
    have hq' : TrV (fun g => g < base) w q.1.t q.2 := by
      rcases List.mem_append.1 hq with hq | hq
      · exact hrow.at_ q hq
      · exact hLt q hq
    exact ⟨hq'.wf, hq'.kids.keep fun g hg' hl => hB.block g hg'⟩
end Go.Proofs.YtlhobpknflobgaaGreatDoor
namespace Go.Proofs.YtlhobpknflobgaaGreatDoor
open Go.RowKit

/-- What is known of two trees, their first k parts looked at. -/
def SmSt (x y : Tr) (k : Nat) (ok : Bool) : Prop := (ok = true → x.same y = Tr.same.samel (x.l.drop k) (y.l.drop k) ∧ x.l.length = y.l.length) ∧ (ok = false → x.same y = false)

set_option maxHeartbeats 4000000 in
set_option maxRecDepth 100000 in
theorem same17_any {F G : Nat → Prop} (x : Tr) : ∀ (y : Tr) (w : World) (sv tv : Value), TrV F w x sv → TrV G w y tv →
    Calls Tryz.prog 90 #[.agg #[.int .i8 x.k, .int .i64 x.n, .string x.s, .string x.t, sv], .agg #[.int .i8 y.k, .int .i64 y.n, .string y.s, .string y.t, tv]] w fun e w' => e = .returned (.bool (x.same y)) ∧ Below w.heap.size w w' := by
  induction x using Tr.ind with
  | h x ih =>
    intro y w sv tv hx hy
    obtain ⟨p, c, rfl⟩ := hx.kids.slice
    obtain ⟨p2, c2, rfl⟩ := hy.kids.slice
    obtain ⟨n1, n2, hb1, hz1⟩ := two_new w (.cells #[.int .i8 x.k, .int .i64 x.n, .string x.s, .string x.t, .slice p x.l.length c] 29) (.cells #[.int .i8 y.k, .int .i64 y.n, .string y.s, .string y.t, .slice p2 y.l.length c2] 29)
    have hx1 := hx.below hb1
    have hy1 := hy.below hb1
    have hlen : x.l.length ≤ 2199023255552 := hx.kids.len
    have hlen2 : y.l.length ≤ 2199023255552 := hy.kids.len
    obtain ⟨a0, a1, a2, a3, a4⟩ := node_heap n1
    obtain ⟨b0, b1, b2, b3, b4⟩ := node_heap n2
    simp only [Nat.zero_add] at a1 a2 a3 a4 b1 b2 b3 b4
    have hrel0 := same_eq x y
    have IH := Lib.hid ih
    have HR := Lib.hid hrel0
    have HX1 := Lib.hid hx1
    have HY1 := Lib.hid hy1
    clear ih hrel0 hx hy n1 n2 hx1 hy1
    go_enter Tryz.func90, Tryz.ntmps90
    go_upto_region 1 with fail
    generalize (w.alloc (.cells #[.int .i8 x.k, .int .i64 x.n, .string x.s, .string x.t, .slice p x.l.length c] 29)).alloc (.cells #[.int .i8 y.k, .int .i64 y.n, .string y.s, .string y.t, .slice p2 y.l.length c2] 29) = w1 at hb1 hz1 HX1 HY1 a0 a1 a2 a3 a4 b0 b1 b2 b3 b4 ⊢
    have HZ := Lib.hid hz1
    clear hz1
    have hfalse : x.same y = false → SmSt x y 0 false := fun h => ⟨fun h => by simp at h, fun _ => h⟩
    cases e0 : (x.k == y.k)
    case' false =>
      have HST := Lib.hid (hfalse (by rw [HR.out, e0]; rfl))
      go_wp2_with fail
      clear e0
    case' true =>
      cases e1 : (x.n == y.n)
    case' true.false =>
      have HST := Lib.hid (hfalse (by rw [HR.out, e0, e1]; rfl))
      go_wp2_with fail
      clear e0 e1
    case' true.true =>
      cases e2 : (x.s.toList == y.s.toList)
    case' true.true.false =>
      have HST := Lib.hid (hfalse (by rw [HR.out, e0, e1, e2]; rfl))
      go_wp2_with fail
      clear e0 e1 e2
    case' true.true.true =>
      cases e3 : (x.t.toList == y.t.toList)
    case' true.true.true.false =>
      have HST := Lib.hid (hfalse (by rw [HR.out, e0, e1, e2, e3]; rfl))
      go_wp2_with fail
      clear e0 e1 e2 e3
    case' true.true.true.true =>
      cases e4 : ((x.l.length : Int) == (y.l.length : Int))
    case' true.true.true.true.false =>
      have HST := Lib.hid (hfalse (by rw [HR.out, e0, e1, e2, e3, e4]; rfl))
      go_wp2_with fail
      clear e0 e1 e2 e3 e4
    case' true.true.true.true.true =>
      have HST : Hid (SmSt x y 0 true) := ⟨fun _ => ⟨by rw [HR.out, e0, e1, e2, e3, e4]; rfl, by have := beq_iff_eq.1 e4; omega⟩, fun h => by simp at h⟩
      go_wp2_with fail
      clear e0 e1 e2 e3 e4
    all_goals
      clear a0 a1 a2 a3 b0 b1 b2 b3 hfalse
      go_loopw [5, 45] (fun okv i wr => ∃ k : Nat, k ≤ x.l.length ∧ i = .int .i64 k ∧ (∃ ok : Bool, okv = .bool ok ∧ SmSt x y k ok) ∧ Below w1.heap.size w1 wr) (fun _ i _ => x.l.length - (intOf i).toNat)
      case atStart => exact ⟨0, Nat.zero_le _, rfl, ⟨_, rfl, HST.out⟩, Below.refl _ _⟩
      case round =>
        obtain ⟨k, hk, rfl, ⟨ok, rfl, hst⟩, hbr⟩ := hrel
        have hbw := hb1.trans (hbr.mono hb1.size)
        have a4r := (hbr.cell (p := ⟨w.heap.size, 4, none⟩) (by show w.heap.size < _; have := HZ.out; omega)).trans a4
        have b4r := (hbr.cell (p := ⟨w.heap.size + 1, 4, none⟩) (by show w.heap.size + 1 < _; have := HZ.out; omega)).trans b4
        have HST2 := Lib.hid hst
        clear hst
        by_cases hlt : k < x.l.length
        · cases ok
          · have HN : Hid (SmSt x y (k + 1) false) := ⟨fun h => by simp at h, HST2.out.2⟩
            go_upto_region 5 with fail
            go_quiet (fail)
            go_wp2_with fail
            go_roundw
            case rel => exact ⟨k + 1, hlt, by go_num, ⟨_, rfl, HN.out⟩, below_drewN hbr _⟩
            case measure => simp [intOf]; omega
          · obtain ⟨hs1, hll⟩ := HST2.out.1 rfl
            have hlt2 : k < y.l.length := by omega
            obtain ⟨g, o, kv, rfl, _, hnode, hkid⟩ := (HX1.out.kids.under hbr).at hlt
            obtain ⟨g2, o2, kv2, rfl, _, hnode2, hkid2⟩ := (HY1.out.kids.under hbr).at hlt2
            have hbd : Below wr.heap.size wr (wr.drewN 1) := below_drewN (Below.refl _ _) 1
            have cK := IH.out x.l[k] (List.getElem_mem hlt) y.l[k] (wr.drewN 1) kv kv2 (hkid.below hbd) (hkid2.below hbd)
            rw [samel_take hlt hlt2] at hs1
            obtain ⟨c0, c1, c2', c3, c4⟩ := hnode
            obtain ⟨d0, d1, d2, d3, d4⟩ := hnode2
            have HN : Hid (SmSt x y (k + 1) (x.l[k].same y.l[k])) := ⟨fun h => ⟨by rw [hs1, h]; rfl, hll⟩, fun h => by rw [hs1, h]; rfl⟩
            clear hs1 hkid hkid2 hll
            generalize x.l[k].same y.l[k] = q at cK HN
            go_upto_region 5 with fail
            go_still_tail 12, (by kernel_rfl)
            change wpList _ _ _ _ _ (wr.drewN 1)
            generalize wr.drewN 1 = w4 at hbd cK ⊢
            go_wp2_with (go_at_call 90; refine cK.mono ?_; rintro e w5 ⟨rfl, hb5⟩)
            go_roundw
            case rel => exact ⟨k + 1, hlt, by go_num, ⟨_, rfl, HN.out⟩, hbr.trans ((hbd.trans (hb5.mono hbd.size)).mono hbr.size)⟩
            case measure => simp [intOf]; omega
        · have HE : Hid (x.same y = ok) := by
            unfold Hid
            cases ok
            · exact HST2.out.2 rfl
            · obtain ⟨h1, h2⟩ := HST2.out.1 rfl
              rw [h1, List.drop_eq_nil_of_le (by omega)]; rfl
          go_wp2
          go_ret
          exact ⟨by rw [HE.out]; rfl, hbw⟩
end Go.Proofs.YtlhobpknflobgaaGreatDoor
namespace Go.Proofs.YtlhobpknflobgaaGreatDoor
open Go.RowKit

set_option maxHeartbeats 2000000 in
set_option maxRecDepth 100000 in
theorem great17_any {F : Nat → Prop} {w : World} {v : Value} {l : List It} (hl : Items F w v l) :
    Calls Tryz.prog 30 #[v] w fun e w' => e = .returned (.bool (decide (200 < l.length) || l.any fun b => decide (1024 ≤ b.t.sz 1024))) ∧ Below w.heap.size w w' := by
  have hlen : l.length ≤ 2199023255552 := hl.len
  obtain ⟨p, c, rfl⟩ := hl.slice
  have HL := Lib.hid hl
  have HM := Lib.hid (show (decide (200 < l.length) || l.any fun b => decide (1024 ≤ b.t.sz 1024)) = (decide (200 < l.length) || l.any fun b => decide (1024 ≤ b.t.sz 1024)) from rfl)
  clear hl
  generalize hg : (decide (200 < l.length) || l.any fun b => decide (1024 ≤ b.t.sz 1024)) = gr at HM ⊢
  have HG := Lib.hid hg
  clear hg HM
  by_cases h : (200 : Int) < l.length
  · go_enter Tryz.func30, Tryz.ntmps30
    go_wp2_with fail
    go_ret
    exact ⟨by rw [← HG.out, decide_eq_true (by omega)]; rfl, Below.refl _ _⟩
  have HM2 : Hid (gr = l.any fun b => decide (1024 ≤ b.t.sz 1024)) := by unfold Hid; rw [← HG.out, decide_eq_false (by omega)]; rfl
  clear HG
  go_enter Tryz.func30, Tryz.ntmps30
  go_wp2_with fail
  go_loopw [3] (fun i wr => ∃ k : Nat, k ≤ l.length ∧ i = .int .i64 k ∧ (l.take k).any (fun b => decide (1024 ≤ b.t.sz 1024)) = false ∧ Below w.heap.size w wr) (fun i _ => l.length - (intOf i).toNat)
  case atStart => exact ⟨0, Nat.zero_le _, rfl, rfl, Below.refl _ _⟩
  case round =>
    obtain ⟨k, hk, rfl, hall, hbr⟩ := hrel
    by_cases hlt : k < l.length
    · obtain ⟨g, o, kv, rfl, _, ⟨a0, a1, a2, a3, a4⟩, hs0, hkid⟩ := (HL.out.under hbr).at hlt
      have cG := greatT_any hkid
      have hstop : decide (1024 ≤ l[k].t.sz 1024) = true → Hid (gr = true) := fun h => by
        unfold Hid; rw [HM2.out]; exact any_at (P := fun b : It => decide (1024 ≤ b.t.sz 1024)) hlt h
      have hnext : decide (1024 ≤ l[k].t.sz 1024) = false → Hid ((l.take (k + 1)).any (fun b => decide (1024 ≤ b.t.sz 1024)) = false) := fun h => any_take (P := fun b : It => decide (1024 ≤ b.t.sz 1024)) hlt hall h
      obtain ⟨p3, c3, rfl⟩ := hkid.kids.slice
      clear hall hkid
      generalize decide (1024 ≤ l[k].t.sz 1024) = q at cG hstop hnext
      cases q
      · have HN := hnext rfl
        clear hstop hnext
        go_wp2_with (go_at_call 37; refine cG.mono ?_; rintro e w5 ⟨rfl, hb5⟩)
        go_roundw
        case rel => exact ⟨k + 1, hlt, by go_num, HN.out, hbr.trans (hb5.mono hbr.size)⟩
        case measure => simp [intOf]; omega
      · have HS := hstop rfl
        clear hstop hnext
        go_wp2_with (go_at_call 37; refine cG.mono ?_; rintro e w5 ⟨rfl, hb5⟩)
        go_ret
        exact ⟨by rw [HS.out]; rfl, hbr.trans (hb5.mono hbr.size)⟩
    · rw [List.take_of_length_le (by omega)] at hall
      have HN : Hid (gr = false) := by unfold Hid; rw [HM2.out, hall]
      clear hall
      go_wp2
      go_ret
      exact ⟨by rw [HN.out]; rfl, hbr⟩

set_option maxHeartbeats 1000000 in
set_option maxRecDepth 100000 in
theorem isAtom_any (w : World) (x : Tr) (sv : Value) (s : ByteArray) :
    Calls Tryz.prog 132 #[.agg #[.int .i8 x.k, .int .i64 x.n, .string x.s, .string x.t, sv], .string s] w fun e w' => e = .returned (.bool (x.k == 1 && x.s.toList == s.toList)) ∧ Below w.heap.size w w' := by
  have hb1 := alloc_below w (.cells #[.int .i8 x.k, .int .i64 x.n, .string x.s, .string x.t, sv] 29)
  obtain ⟨a0, a1, a2, a3, a4⟩ := node_heap (heap_new w (.cells #[.int .i8 x.k, .int .i64 x.n, .string x.s, .string x.t, sv] 29))
  simp only [Nat.zero_add] at a1 a2 a3 a4
  cases e0 : (x.k == 1)
  all_goals
    go_enter Tryz.func132, Tryz.ntmps132
    go_wp2
    go_ret
    exact ⟨by simp, hb1⟩

/-- Is a term a tuple whose first part is that atom, its second one that term? -/
def isB (x : Tr) (tag : ByteArray) (t : Tr) : Bool := x.k == 5 && (decide (2 ≤ (x.l.length : Int)) && (((x.l.getD 0 zeroT).k == 1 && (x.l.getD 0 zeroT).s.toList == tag.toList) && (x.l.getD 1 zeroT).same t))
/-- An item's six cells, and what lies behind its parts. -/
theorem item_heap {w : World} {b : Nat} {x : Tr} {sv : Value} {o : Bool} {T : TypeId} (h : w.heap[b]? = some (.cells #[.int .i8 x.k, .int .i64 x.n, .string x.s, .string x.t, sv, .bool o] T (0, 0))) : NodeAt w b 0 x sv ∧ w.cell? ⟨b, 5, none⟩ = some (.bool o) := by
  have f : ∀ i, w.cell? ⟨b, i, none⟩ = (#[.int .i8 x.k, .int .i64 x.n, .string x.s, .string x.t, sv, .bool o] : Array Value)[i]? := fun i => arr_cell h
  exact ⟨⟨f 0, f 1, f 2, f 3, f 4⟩, f 5⟩

set_option maxHeartbeats 4000000 in
set_option maxRecDepth 100000 in
theorem is17_any {F G : Nat → Prop} {w : World} {x t : Tr} {sv tv : Value} {o : Bool} {tag : ByteArray} (hx : TrV F w x sv) (ht : TrV G w t tv) :
    Calls Tryz.prog 87 #[.agg #[.int .i8 x.k, .int .i64 x.n, .string x.s, .string x.t, sv, .bool o], .string tag, .agg #[.int .i8 t.k, .int .i64 t.n, .string t.s, .string t.t, tv]] w fun e w' => e = .returned (.bool (isB x tag t)) ∧ Below w.heap.size w w' := by
  obtain ⟨p1, c1, rfl⟩ := hx.kids.slice
  obtain ⟨p2, c2, rfl⟩ := ht.kids.slice
  obtain ⟨n1, n2, hb1, hz1⟩ := two_new w (.cells #[.int .i8 x.k, .int .i64 x.n, .string x.s, .string x.t, .slice p1 x.l.length c1, .bool o] 65) (.cells #[.int .i8 t.k, .int .i64 t.n, .string t.s, .string t.t, .slice p2 t.l.length c2] 29)
  obtain ⟨⟨a0, a1, a2, a3, a4⟩, a5⟩ := item_heap n1
  obtain ⟨b0, b1, b2, b3, b4⟩ := node_heap n2
  simp only [Nat.zero_add] at a1 a2 a3 a4 b1 b2 b3 b4
  have hx1 := hx.below hb1
  have ht1 := ht.below hb1
  have hlen : x.l.length ≤ 2199023255552 := hx.kids.len
  have hI : isB x tag t = (x.k == 5 && (decide (2 ≤ (x.l.length : Int)) && (((x.l.getD 0 zeroT).k == 1 && (x.l.getD 0 zeroT).s.toList == tag.toList) && (x.l.getD 1 zeroT).same t))) := rfl
  have HI := Lib.hid hI
  clear hx ht n1 n2 hI
  go_enter Tryz.func87, Tryz.ntmps87
  go_upto_region 2 with fail
  generalize (w.alloc (.cells #[.int .i8 x.k, .int .i64 x.n, .string x.s, .string x.t, .slice p1 x.l.length c1, .bool o] 65)).alloc (.cells #[.int .i8 t.k, .int .i64 t.n, .string t.s, .string t.t, .slice p2 t.l.length c2] 29) = w1 at hb1 hz1 a0 a1 a2 a3 a4 a5 b0 b1 b2 b3 b4 hx1 ht1 ⊢
  cases e0 : (x.k == 5)
  · have HE : Hid (isB x tag t = false) := by unfold Hid; rw [HI.out, e0]; rfl
    go_quiet (fail)
    go_wp2_with fail
    go_ret
    exact ⟨by rw [HE.out]; rfl, below_drewN hb1 _⟩
  cases e1 : decide (2 ≤ (x.l.length : Int))
  · have HE : Hid (isB x tag t = false) := by unfold Hid; rw [HI.out, e0, e1]; rfl
    go_quiet (fail)
    go_wp2_with fail
    go_ret
    exact ⟨by rw [HE.out]; rfl, below_drewN hb1 _⟩
  have hl2 : 2 ≤ x.l.length := by have := of_decide_eq_true e1; omega
  obtain ⟨g, q, kv0, rfl, _, hn0, hk0⟩ := hx1.kids.at (show 0 < x.l.length by omega)
  obtain ⟨g', q', kv1, hp', _, hn1, hk1⟩ := hx1.kids.at (show 1 < x.l.length by omega)
  cases hp'
  have hg0 : x.l.getD 0 zeroT = x.l[0] := by simp [show 0 < x.l.length by omega]
  have hg1 : x.l.getD 1 zeroT = x.l[1] := by simp [show 1 < x.l.length by omega]
  obtain ⟨c0, c1', c2', c3, c4⟩ := hn0
  obtain ⟨d0, d1, d2, d3, d4⟩ := hn1
  simp only [Nat.zero_mul, Nat.one_mul, Nat.add_zero] at c0 c1' c2' c3 c4 d0 d1 d2 d3 d4
  obtain ⟨p4, c4', rfl⟩ := hk1.kids.slice
  have h0l : (0 : Int) < x.l.length := by omega
  have h1l : (1 : Int) < x.l.length := by omega
  cases e2 : ((x.l[0]'(by omega)).k == 1)
  · have HE : Hid (isB x tag t = false) := by unfold Hid; rw [HI.out, e0, e1, hg0, e2]; rfl
    clear hg0 hg1
    go_quiet (fail)
    go_wp2_with fail
    go_ret
    exact ⟨by rw [HE.out]; rfl, below_drewN hb1 _⟩
  cases e3 : ((x.l[0]'(by omega)).s.toList == tag.toList)
  · have HE : Hid (isB x tag t = false) := by unfold Hid; rw [HI.out, e0, e1, hg0, e2, e3]; rfl
    clear hg0 hg1
    go_quiet (fail)
    go_wp2_with fail
    go_ret
    exact ⟨by rw [HE.out]; rfl, below_drewN hb1 _⟩
  have HE : Hid (isB x tag t = (x.l[1]'(by omega)).same t) := by unfold Hid; rw [HI.out, e0, e1, hg0, e2, e3, hg1]; rfl
  have hbd : Below w1.heap.size w1 (w1.drewN 1) := below_drewN (Below.refl _ _) 1
  have cS := same17_any (x.l[1]'(by omega)) t (w1.drewN 1) _ _ (hk1.below hbd) (ht1.below hbd)
  clear hg0 hg1 hk0 hk1
  have k0 : 0 < x.l.length := by omega
  have k1 : 1 < x.l.length := by omega
  have k2 : ¬ x.l = [] := by intro h; rw [h] at k0; simp at k0
  go_still_tail 29, (by kernel_rfl)
  change wpList _ _ _ _ _ (w1.drewN 1)
  generalize w1.drewN 1 = w4 at hbd cS ⊢
  go_wp2_with (go_at_call 90; refine cS.mono ?_; rintro e w5 ⟨rfl, hb5⟩)
  go_ret
  exact ⟨by rw [HE.out]; rfl, hb1.trans ((hbd.trans (hb5.mono hbd.size)).mono hb1.size)⟩
end Go.Proofs.YtlhobpknflobgaaGreatDoor
namespace Go.Proofs.YtlhobpknflobgaaGreatDoor
open Go.RowKit

set_option maxHeartbeats 8000000 in
set_option maxRecDepth 100000 in
theorem ris17_any {F G : Nat → Prop} {w : World} {x t : Tr} {sv tv : Value} {o : Bool} {tag : ByteArray} (hx : TrV F w x sv) (ht : TrV G w t tv) :
    Calls Tryz.prog 88 #[.agg #[.int .i8 x.k, .int .i64 x.n, .string x.s, .string x.t, sv, .bool o], .string tag, .agg #[.int .i8 t.k, .int .i64 t.n, .string t.s, .string t.t, tv]] w fun e w' => e = .returned (.bool (isB x tag t)) ∧ Below w.heap.size w w' := by
  obtain ⟨p1, c1, rfl⟩ := hx.kids.slice
  obtain ⟨p2, c2, rfl⟩ := ht.kids.slice
  obtain ⟨n1, n2, hb1, hz1⟩ := two_new w (.cells #[.int .i8 x.k, .int .i64 x.n, .string x.s, .string x.t, .slice p1 x.l.length c1, .bool o] 65) (.cells #[.int .i8 t.k, .int .i64 t.n, .string t.s, .string t.t, .slice p2 t.l.length c2] 29)
  obtain ⟨⟨a0, a1, a2, a3, a4⟩, a5⟩ := item_heap n1
  obtain ⟨b0, b1, b2, b3, b4⟩ := node_heap n2
  simp only [Nat.zero_add] at a1 a2 a3 a4 b1 b2 b3 b4
  have hx1 := hx.below hb1
  have ht1 := ht.below hb1
  have hlen : x.l.length ≤ 2199023255552 := hx.kids.len
  have hI : isB x tag t = (x.k == 5 && (decide (2 ≤ (x.l.length : Int)) && (((x.l.getD 0 zeroT).k == 1 && (x.l.getD 0 zeroT).s.toList == tag.toList) && (x.l.getD 1 zeroT).same t))) := rfl
  have HI := Lib.hid hI
  clear hx ht n1 n2 hI
  go_enter Tryz.func88, Tryz.ntmps88
  go_upto_region 1 with fail
  generalize (w.alloc (.cells #[.int .i8 x.k, .int .i64 x.n, .string x.s, .string x.t, .slice p1 x.l.length c1, .bool o] 65)).alloc (.cells #[.int .i8 t.k, .int .i64 t.n, .string t.s, .string t.t, .slice p2 t.l.length c2] 29) = w1 at hb1 hz1 a0 a1 a2 a3 a4 a5 b0 b1 b2 b3 b4 hx1 ht1 ⊢
  cases e0 : (x.k == 5)
  · have HE : Hid (isB x tag t = false) := by unfold Hid; rw [HI.out, e0]; rfl
    go_quiet (fail)
    go_wp2_with fail
    go_ret
    exact ⟨by rw [HE.out]; rfl, below_drewN hb1 _⟩
  cases e1 : decide (2 ≤ (x.l.length : Int))
  · have HE : Hid (isB x tag t = false) := by unfold Hid; rw [HI.out, e0, e1]; rfl
    go_quiet (fail)
    go_wp2_with fail
    go_ret
    exact ⟨by rw [HE.out]; rfl, below_drewN hb1 _⟩
  have hl2 : 2 ≤ x.l.length := by have := of_decide_eq_true e1; omega
  obtain ⟨g, q, kv0, rfl, _, hn0, hk0⟩ := hx1.kids.at (show 0 < x.l.length by omega)
  obtain ⟨g', q', kv1, hp', _, hn1, hk1⟩ := hx1.kids.at (show 1 < x.l.length by omega)
  cases hp'
  have hg0 : x.l.getD 0 zeroT = x.l[0] := by simp [show 0 < x.l.length by omega]
  have hg1 : x.l.getD 1 zeroT = x.l[1] := by simp [show 1 < x.l.length by omega]
  obtain ⟨c0, c1', c2', c3, c4⟩ := hn0
  obtain ⟨d0, d1, d2, d3, d4⟩ := hn1
  simp only [Nat.zero_mul, Nat.one_mul, Nat.add_zero] at c0 c1' c2' c3 c4 d0 d1 d2 d3 d4
  obtain ⟨p4, c4', rfl⟩ := hk1.kids.slice
  obtain ⟨p3, c3', rfl⟩ := hk0.kids.slice
  have h0l : (0 : Int) < x.l.length := by omega
  have h1l : (1 : Int) < x.l.length := by omega
  have k0 : 0 < x.l.length := by omega
  have k1 : 1 < x.l.length := by omega
  have k2 : ¬ x.l = [] := by intro h; rw [h] at k0; simp at k0
  have hbd : Below w1.heap.size w1 (w1.drewN 1) := below_drewN (Below.refl _ _) 1
  have HT1 := Lib.hid ht1
  have HK1 := Lib.hid hk1
  have hE : isB x tag t = (((x.l[0]'k0).k == 1 && (x.l[0]'k0).s.toList == tag.toList) && (x.l[1]'k1).same t) := by rw [HI.out, e0, e1, hg0, hg1]; rfl
  have HE := Lib.hid hE
  clear hg0 hg1 hk0 hk1 ht1 hx1 hE HI
  generalize x.l[0]'k0 = u0 at *
  generalize x.l[1]'k1 = u1 at *
  have hS : ∀ W : World, Below w1.heap.size w1 W → W.cell? ⟨w.heap.size, 0, none⟩ = some (.int .i8 x.k) ∧ W.cell? ⟨w.heap.size, 4, none⟩ = some (.slice (some ⟨g, q, none⟩) x.l.length c1) ∧
      (W.cell? ⟨w.heap.size + 1, 0, none⟩ = some (.int .i8 t.k) ∧ W.cell? ⟨w.heap.size + 1, 1, none⟩ = some (.int .i64 t.n) ∧ W.cell? ⟨w.heap.size + 1, 2, none⟩ = some (.string t.s) ∧ W.cell? ⟨w.heap.size + 1, 3, none⟩ = some (.string t.t) ∧ W.cell? ⟨w.heap.size + 1, 4, none⟩ = some (.slice p2 t.l.length c2)) ∧
      (W.cell? ⟨g, q, none⟩ = some (.int .i8 u0.k) ∧ W.cell? ⟨g, q + 1, none⟩ = some (.int .i64 u0.n) ∧ W.cell? ⟨g, q + 2, none⟩ = some (.string u0.s) ∧ W.cell? ⟨g, q + 3, none⟩ = some (.string u0.t) ∧ W.cell? ⟨g, q + 4, none⟩ = some (.slice p3 u0.l.length c3')) ∧
      (W.cell? ⟨g, q + 5, none⟩ = some (.int .i8 u1.k) ∧ W.cell? ⟨g, q + 5 + 1, none⟩ = some (.int .i64 u1.n) ∧ W.cell? ⟨g, q + 5 + 2, none⟩ = some (.string u1.s) ∧ W.cell? ⟨g, q + 5 + 3, none⟩ = some (.string u1.t) ∧ W.cell? ⟨g, q + 5 + 4, none⟩ = some (.slice p4 u1.l.length c4')) := by
    intro W hb
    have f : ∀ g o u, w1.cell? ⟨g, o, none⟩ = some u → W.cell? ⟨g, o, none⟩ = some u := fun g o u h => (hb.cell (p := ⟨g, o, none⟩) (cell_block h)).trans h
    exact ⟨f _ _ _ a0, f _ _ _ a4, ⟨f _ _ _ b0, f _ _ _ b1, f _ _ _ b2, f _ _ _ b3, f _ _ _ b4⟩, ⟨f _ _ _ c0, f _ _ _ c1', f _ _ _ c2', f _ _ _ c3, f _ _ _ c4⟩, ⟨f _ _ _ d0, f _ _ _ d1, f _ _ _ d2, f _ _ _ d3, f _ _ _ d4⟩⟩
  have hS0 := hS w1 (Below.refl _ _)
  have cA := fun W : World => isAtom_any W u0 (.slice p3 u0.l.length c3') tag
  cases e2 : (u0.k == 1 && u0.s.toList == tag.toList)
  · rw [e2] at cA
    have HE2 : Hid (isB x tag t = false) := by unfold Hid; rw [HE.out, e2]; rfl
    clear a0 a1 a2 a3 a4 a5 b0 b1 b2 b3 b4 c0 c1' c2' c3 c4 d0 d1 d2 d3 d4
    refine wp_region_held_drew (S := (fun W => W.cell? ⟨w.heap.size, 0, none⟩ = some (.int .i8 x.k) ∧ W.cell? ⟨w.heap.size, 4, none⟩ = some (.slice (some ⟨g, q, none⟩) x.l.length c1) ∧ (W.cell? ⟨w.heap.size + 1, 0, none⟩ = some (.int .i8 t.k) ∧ W.cell? ⟨w.heap.size + 1, 1, none⟩ = some (.int .i64 t.n) ∧ W.cell? ⟨w.heap.size + 1, 2, none⟩ = some (.string t.s) ∧ W.cell? ⟨w.heap.size + 1, 3, none⟩ = some (.string t.t) ∧ W.cell? ⟨w.heap.size + 1, 4, none⟩ = some (.slice p2 t.l.length c2)) ∧ (W.cell? ⟨g, q, none⟩ = some (.int .i8 u0.k) ∧ W.cell? ⟨g, q + 1, none⟩ = some (.int .i64 u0.n) ∧ W.cell? ⟨g, q + 2, none⟩ = some (.string u0.s) ∧ W.cell? ⟨g, q + 3, none⟩ = some (.string u0.t) ∧ W.cell? ⟨g, q + 4, none⟩ = some (.slice p3 u0.l.length c3')) ∧ (W.cell? ⟨g, q + 5, none⟩ = some (.int .i8 u1.k) ∧ W.cell? ⟨g, q + 5 + 1, none⟩ = some (.int .i64 u1.n) ∧ W.cell? ⟨g, q + 5 + 2, none⟩ = some (.string u1.s) ∧ W.cell? ⟨g, q + 5 + 3, none⟩ = some (.string u1.t) ∧ W.cell? ⟨g, q + 5 + 4, none⟩ = some (.slice p4 u1.l.length c4')))) (by kernel_rfl) ?_ (fun hHeld => ?_)
    · (try dsimp only); (first | exact hS0 | exact hS1)
    refine wpAnyH_take (i := 0) (v := ?_) rfl (by kernel_rfl) (by kernel_rfl) (by kernel_rfl) (fun _ _ _ h => h) (Or.inl ⟨by rfl, ?_⟩) (by assumption) ?_
    rotate_left 1
    (intro w hSw; (try dsimp only at hSw); go_simp; try with_reducible rfl)
    (try simp only [List.getElem_toArray, List.getElem_cons_zero, Act.put, List.setIfInBounds_toArray, List.set_cons_zero, List.set_cons_succ])
    refine wpAnyH_take (i := 1) (v := ?_) rfl (by kernel_rfl) (by kernel_rfl) (by kernel_rfl) (fun _ _ _ h => h) (Or.inl ⟨by rfl, ?_⟩) (by assumption) ?_
    rotate_left 1
    (intro w hSw; (try dsimp only at hSw); go_simp; try with_reducible rfl)
    (try simp only [List.getElem_toArray, List.getElem_cons_succ, List.getElem_cons_zero, Act.put, List.setIfInBounds_toArray, List.set_cons_zero, List.set_cons_succ])
    refine wpAnyH_take (i := 2) (v := ?_) rfl (by kernel_rfl) (by kernel_rfl) (by kernel_rfl) (fun _ _ _ h => h) (Or.inl ⟨by rfl, ?_⟩) (by assumption) ?_
    rotate_left 1
    (intro w hSw; (try dsimp only at hSw); go_simp; try with_reducible rfl)
    (try simp only [List.getElem_toArray, List.getElem_cons_succ, List.getElem_cons_zero, Act.put, List.setIfInBounds_toArray, List.set_cons_zero, List.set_cons_succ])
    refine wpAnyH_take (i := 3) (v := ?_) rfl (by kernel_rfl) (by kernel_rfl) (by kernel_rfl) (fun _ _ _ h => h) (Or.inl ⟨by rfl, ?_⟩) (by assumption) ?_
    rotate_left 1
    (intro w hSw; (try dsimp only at hSw); go_simp; try with_reducible rfl)
    (try simp only [List.getElem_toArray, List.getElem_cons_succ, List.getElem_cons_zero, Act.put, List.setIfInBounds_toArray, List.set_cons_zero, List.set_cons_succ])
    refine wpAnyH_take (i := 4) (v := ?_) rfl (by kernel_rfl) (by kernel_rfl) (by kernel_rfl) (fun _ _ _ h => h) (Or.inl ⟨by rfl, ?_⟩) (by assumption) ?_
    rotate_left 1
    (intro w hSw; (try dsimp only at hSw); go_simp; try with_reducible rfl)
    (try simp only [List.getElem_toArray, List.getElem_cons_succ, List.getElem_cons_zero, Act.put, List.setIfInBounds_toArray, List.set_cons_zero, List.set_cons_succ])
    refine wpAnyH_take (i := 5) (v := ?_) rfl (by kernel_rfl) (by kernel_rfl) (by kernel_rfl) (fun _ _ _ h => h) (Or.inl ⟨by rfl, ?_⟩) (by assumption) ?_
    rotate_left 1
    (intro w hSw; (try dsimp only at hSw); go_simp; try with_reducible rfl)
    (try simp only [List.getElem_toArray, List.getElem_cons_succ, List.getElem_cons_zero, Act.put, List.setIfInBounds_toArray, List.set_cons_zero, List.set_cons_succ])
    refine wpAnyH_take (i := 6) (v := ?_) rfl (by kernel_rfl) (by kernel_rfl) (by kernel_rfl) (fun _ _ _ h => h) (Or.inl ⟨by rfl, ?_⟩) (by assumption) ?_
    rotate_left 1
    (intro w hSw; (try dsimp only at hSw); go_simp; try with_reducible rfl)
    (try simp only [List.getElem_toArray, List.getElem_cons_succ, List.getElem_cons_zero, Act.put, List.setIfInBounds_toArray, List.set_cons_zero, List.set_cons_succ])
    refine wpAnyH_take (i := 7) (v := ?_) rfl (by kernel_rfl) (by kernel_rfl) (by kernel_rfl) (fun _ _ _ h => h) (Or.inl ⟨by rfl, ?_⟩) (by assumption) ?_
    rotate_left 1
    (intro w hSw; (try dsimp only at hSw); go_simp; try with_reducible rfl)
    (try simp only [List.getElem_toArray, List.getElem_cons_succ, List.getElem_cons_zero, Act.put, List.setIfInBounds_toArray, List.set_cons_zero, List.set_cons_succ])
    refine wpAnyH_take (i := 8) (v := ?_) rfl (by kernel_rfl) (by kernel_rfl) (by kernel_rfl) (fun _ _ _ h => h) (Or.inl ⟨by rfl, ?_⟩) (by assumption) ?_
    rotate_left 1
    (intro w hSw; (try dsimp only at hSw); go_simp; try with_reducible rfl)
    (try simp only [List.getElem_toArray, List.getElem_cons_succ, List.getElem_cons_zero, Act.put, List.setIfInBounds_toArray, List.set_cons_zero, List.set_cons_succ])
    refine wpAnyH_take (i := 9) (v := ?_) rfl (by kernel_rfl) (by kernel_rfl) (by kernel_rfl) (fun _ _ _ h => h) (Or.inl ⟨by rfl, ?_⟩) (by assumption) ?_
    rotate_left 1
    (intro w hSw; (try dsimp only at hSw); go_simp; try with_reducible rfl)
    (try simp only [List.getElem_toArray, List.getElem_cons_succ, List.getElem_cons_zero, Act.put, List.setIfInBounds_toArray, List.set_cons_zero, List.set_cons_succ])
    refine wpAnyH_take (i := 10) (v := ?_) rfl (by kernel_rfl) (by kernel_rfl) (by kernel_rfl) (fun _ _ _ h => h) (Or.inl ⟨by rfl, ?_⟩) (by assumption) ?_
    rotate_left 1
    (intro w hSw; (try dsimp only at hSw); go_simp; try with_reducible rfl)
    (try simp only [List.getElem_toArray, List.getElem_cons_succ, List.getElem_cons_zero, Act.put, List.setIfInBounds_toArray, List.set_cons_zero, List.set_cons_succ])
    refine wpAnyH_take (i := 11) (v := ?_) rfl (by kernel_rfl) (by kernel_rfl) (by kernel_rfl) (fun _ _ _ h => h) (Or.inl ⟨by rfl, ?_⟩) (by assumption) ?_
    rotate_left 1
    (intro w hSw; (try dsimp only at hSw); go_simp; try with_reducible rfl)
    (try simp only [List.getElem_toArray, List.getElem_cons_succ, List.getElem_cons_zero, Act.put, List.setIfInBounds_toArray, List.set_cons_zero, List.set_cons_succ])
    refine wpAnyH_take (i := 12) (v := ?_) rfl (by kernel_rfl) (by kernel_rfl) (by kernel_rfl) (fun _ _ _ h => h) (Or.inl ⟨by rfl, ?_⟩) (by assumption) ?_
    rotate_left 1
    (intro w hSw; (try dsimp only at hSw); go_simp; try with_reducible rfl)
    (try simp only [List.getElem_toArray, List.getElem_cons_succ, List.getElem_cons_zero, Act.put, List.setIfInBounds_toArray, List.set_cons_zero, List.set_cons_succ])
    refine wpAnyH_take (i := 13) (v := ?_) rfl (by kernel_rfl) (by kernel_rfl) (by kernel_rfl) (fun _ _ _ h => h) (Or.inl ⟨by rfl, ?_⟩) (by assumption) ?_
    rotate_left 1
    (intro w hSw; (try dsimp only at hSw); go_simp; try with_reducible rfl)
    (try simp only [List.getElem_toArray, List.getElem_cons_succ, List.getElem_cons_zero, Act.put, List.setIfInBounds_toArray, List.set_cons_zero, List.set_cons_succ])
    refine wpAnyH_take (i := 14) (v := ?_) rfl (by kernel_rfl) (by kernel_rfl) (by kernel_rfl) (fun _ _ _ h => h) (Or.inl ⟨by rfl, ?_⟩) (by assumption) ?_
    rotate_left 1
    (intro w hSw; (try dsimp only at hSw); go_simp; try with_reducible rfl)
    (try simp only [List.getElem_toArray, List.getElem_cons_succ, List.getElem_cons_zero, Act.put, List.setIfInBounds_toArray, List.set_cons_zero, List.set_cons_succ])
    refine wpAnyH_take (i := 15) (v := ?_) rfl (by kernel_rfl) (by kernel_rfl) (by kernel_rfl) (fun _ _ _ h => h) (Or.inl ⟨by rfl, ?_⟩) (by assumption) ?_
    rotate_left 1
    (intro w hSw; (try dsimp only at hSw); go_simp; try with_reducible rfl)
    (try simp only [List.getElem_toArray, List.getElem_cons_succ, List.getElem_cons_zero, Act.put, List.setIfInBounds_toArray, List.set_cons_zero, List.set_cons_succ])
    refine wpAnyH_take (i := 16) (v := ?_) rfl (by kernel_rfl) (by kernel_rfl) (by kernel_rfl) (fun _ _ _ h => h) (Or.inl ⟨by rfl, ?_⟩) (by assumption) ?_
    rotate_left 1
    (intro w hSw; (try dsimp only at hSw); go_simp; try with_reducible rfl)
    (try simp only [List.getElem_toArray, List.getElem_cons_succ, List.getElem_cons_zero, Act.put, List.setIfInBounds_toArray, List.set_cons_zero, List.set_cons_succ])
    refine wpAnyH_take (i := 17) (v := ?_) rfl (by kernel_rfl) (by kernel_rfl) (by kernel_rfl) (fun _ _ _ h => h) (Or.inl ⟨by rfl, ?_⟩) (by assumption) ?_
    rotate_left 1
    (intro w hSw; (try dsimp only at hSw); go_simp; try with_reducible rfl)
    (try simp only [List.getElem_toArray, List.getElem_cons_succ, List.getElem_cons_zero, Act.put, List.setIfInBounds_toArray, List.set_cons_zero, List.set_cons_succ])
    refine wpAnyH_ready (rs := [18]) (by kernel_rfl) (by simp) ?_
    refine AllReadyH.cons rfl (fun K hK => ?_) AllReadyH.nil
    go_simp
    go_wp2_with (go_at_call 132; refine (cA _).mono ?_; rintro e w5 ⟨rfl, hb5⟩; have hB5 := hbd.trans (hb5.mono hbd.size); have hS1 := hS _ hB5)
    refine hK.out _ _ ?_ (fun hHeld => ?_)
    · (try dsimp only); (first | exact hS0 | exact hS1)
    clear hK K
    (try simp only [List.getElem_toArray, List.getElem_cons_succ, List.getElem_cons_zero, Act.put, List.setIfInBounds_toArray, List.set_cons_zero, List.set_cons_succ])
    refine wpAnyH_take (i := 19) (v := ?_) rfl (by kernel_rfl) (by kernel_rfl) (by kernel_rfl) (fun _ _ _ h => h) (Or.inl ⟨by rfl, ?_⟩) (by assumption) ?_
    rotate_left 1
    (intro w hSw; (try dsimp only at hSw); go_simp; try with_reducible rfl)
    (try simp only [List.getElem_toArray, List.getElem_cons_succ, List.getElem_cons_zero, Act.put, List.setIfInBounds_toArray, List.set_cons_zero, List.set_cons_succ])
    refine wpAnyH_take (i := 20) (v := ?_) rfl (by kernel_rfl) (by kernel_rfl) (by kernel_rfl) (fun _ _ _ h => h) (Or.inl ⟨by rfl, ?_⟩) (by assumption) ?_
    rotate_left 1
    (intro w hSw; (try dsimp only at hSw); go_simp; try with_reducible rfl)
    (try simp only [List.getElem_toArray, List.getElem_cons_succ, List.getElem_cons_zero, Act.put, List.setIfInBounds_toArray, List.set_cons_zero, List.set_cons_succ])
    refine wpAnyH_take (i := 21) (v := undef) rfl (by kernel_rfl) (by kernel_rfl) (by kernel_rfl) (fun _ _ _ h => h) (Or.inr ⟨by rfl, rfl⟩) (by assumption) ?_
    (try simp only [List.getElem_toArray, List.getElem_cons_succ, List.getElem_cons_zero, Act.put, List.setIfInBounds_toArray, List.set_cons_zero, List.set_cons_succ])
    refine wpAnyH_take (i := 22) (v := undef) rfl (by kernel_rfl) (by kernel_rfl) (by kernel_rfl) (fun _ _ _ h => h) (Or.inr ⟨by rfl, rfl⟩) (by assumption) ?_
    (try simp only [List.getElem_toArray, List.getElem_cons_succ, List.getElem_cons_zero, Act.put, List.setIfInBounds_toArray, List.set_cons_zero, List.set_cons_succ])
    refine wpAnyH_take (i := 23) (v := undef) rfl (by kernel_rfl) (by kernel_rfl) (by kernel_rfl) (fun _ _ _ h => h) (Or.inr ⟨by rfl, rfl⟩) (by assumption) ?_
    (try simp only [List.getElem_toArray, List.getElem_cons_succ, List.getElem_cons_zero, Act.put, List.setIfInBounds_toArray, List.set_cons_zero, List.set_cons_succ])
    refine wpAnyH_take (i := 24) (v := undef) rfl (by kernel_rfl) (by kernel_rfl) (by kernel_rfl) (fun _ _ _ h => h) (Or.inr ⟨by rfl, rfl⟩) (by assumption) ?_
    (try simp only [List.getElem_toArray, List.getElem_cons_succ, List.getElem_cons_zero, Act.put, List.setIfInBounds_toArray, List.set_cons_zero, List.set_cons_succ])
    refine wpAnyH_take (i := 25) (v := undef) rfl (by kernel_rfl) (by kernel_rfl) (by kernel_rfl) (fun _ _ _ h => h) (Or.inr ⟨by rfl, rfl⟩) (by assumption) ?_
    (try simp only [List.getElem_toArray, List.getElem_cons_succ, List.getElem_cons_zero, Act.put, List.setIfInBounds_toArray, List.set_cons_zero, List.set_cons_succ])
    refine wpAnyH_take (i := 26) (v := undef) rfl (by kernel_rfl) (by kernel_rfl) (by kernel_rfl) (fun _ _ _ h => h) (Or.inr ⟨by rfl, rfl⟩) (by assumption) ?_
    (try simp only [List.getElem_toArray, List.getElem_cons_succ, List.getElem_cons_zero, Act.put, List.setIfInBounds_toArray, List.set_cons_zero, List.set_cons_succ])
    refine wpAnyH_take (i := 27) (v := undef) rfl (by kernel_rfl) (by kernel_rfl) (by kernel_rfl) (fun _ _ _ h => h) (Or.inr ⟨by rfl, rfl⟩) (by assumption) ?_
    (try simp only [List.getElem_toArray, List.getElem_cons_succ, List.getElem_cons_zero, Act.put, List.setIfInBounds_toArray, List.set_cons_zero, List.set_cons_succ])
    refine wpAnyH_take (i := 28) (v := ?_) rfl (by kernel_rfl) (by kernel_rfl) (by kernel_rfl) (fun _ _ _ h => h) (Or.inl ⟨by rfl, ?_⟩) (by assumption) ?_
    rotate_left 1
    (intro w hSw; (try dsimp only at hSw); go_simp; try with_reducible rfl)
    (try simp only [List.getElem_toArray, List.getElem_cons_succ, List.getElem_cons_zero, Act.put, List.setIfInBounds_toArray, List.set_cons_zero, List.set_cons_succ])
    refine wpAnyH_take (i := 29) (v := ?_) rfl (by kernel_rfl) (by kernel_rfl) (by kernel_rfl) (fun _ _ _ h => h) (Or.inl ⟨by rfl, ?_⟩) (by assumption) ?_
    rotate_left 1
    (intro w hSw; (try dsimp only at hSw); go_simp; try with_reducible rfl)
    (try simp only [List.getElem_toArray, List.getElem_cons_succ, List.getElem_cons_zero, Act.put, List.setIfInBounds_toArray, List.set_cons_zero, List.set_cons_succ])
    refine wpAnyH_done (by kernel_rfl) ?_ _
    go_wp2_with fail
    go_ret
    exact ⟨by rw [HE2.out]; rfl, hb1.trans (hB5.mono hb1.size)⟩
  · rw [e2] at cA
    have HE2 : Hid (isB x tag t = u1.same t) := by unfold Hid; rw [HE.out, e2]; rfl
    have cS := fun (W : World) (hb : Below w1.heap.size w1 W) => rsame_any u1 t W _ _ (HK1.out.below hb) (HT1.out.below hb)
    generalize u1.same t = sb at cS HE2
    clear a0 a1 a2 a3 a4 a5 b0 b1 b2 b3 b4 c0 c1' c2' c3 c4 d0 d1 d2 d3 d4
    go_region_held3 (fun W => W.cell? ⟨w.heap.size, 0, none⟩ = some (.int .i8 x.k) ∧ W.cell? ⟨w.heap.size, 4, none⟩ = some (.slice (some ⟨g, q, none⟩) x.l.length c1) ∧ (W.cell? ⟨w.heap.size + 1, 0, none⟩ = some (.int .i8 t.k) ∧ W.cell? ⟨w.heap.size + 1, 1, none⟩ = some (.int .i64 t.n) ∧ W.cell? ⟨w.heap.size + 1, 2, none⟩ = some (.string t.s) ∧ W.cell? ⟨w.heap.size + 1, 3, none⟩ = some (.string t.t) ∧ W.cell? ⟨w.heap.size + 1, 4, none⟩ = some (.slice p2 t.l.length c2)) ∧ (W.cell? ⟨g, q, none⟩ = some (.int .i8 u0.k) ∧ W.cell? ⟨g, q + 1, none⟩ = some (.int .i64 u0.n) ∧ W.cell? ⟨g, q + 2, none⟩ = some (.string u0.s) ∧ W.cell? ⟨g, q + 3, none⟩ = some (.string u0.t) ∧ W.cell? ⟨g, q + 4, none⟩ = some (.slice p3 u0.l.length c3')) ∧ (W.cell? ⟨g, q + 5, none⟩ = some (.int .i8 u1.k) ∧ W.cell? ⟨g, q + 5 + 1, none⟩ = some (.int .i64 u1.n) ∧ W.cell? ⟨g, q + 5 + 2, none⟩ = some (.string u1.s) ∧ W.cell? ⟨g, q + 5 + 3, none⟩ = some (.string u1.t) ∧ W.cell? ⟨g, q + 5 + 4, none⟩ = some (.slice p4 u1.l.length c4'))) (first | exact hS0 | exact hS1 | exact hS2) (first
      | (go_at_call 132; refine (cA _).mono ?_; rintro e w5 ⟨rfl, hb5⟩; have hB5 := hbd.trans (hb5.mono hbd.size); have hS1 := hS _ hB5)
      | (go_at_call 25; refine (cS _ hB5).mono ?_; rintro e w6 ⟨rfl, hb6⟩; have hB6 := hB5.trans (hb6.mono hB5.size); have hS2 := hS _ hB6))
    go_wp2_with fail
    go_ret
    exact ⟨by rw [HE2.out]; rfl, hb1.trans (hB6.mono hb1.size)⟩

/-- How many items are users'. -/
def usersB (l : List It) : Nat := l.countP fun x => !x.o
theorem users_take {l : List It} {k : Nat} (hk : k < l.length) : usersB (l.take (k + 1)) = usersB (l.take k) + if l[k].o then 0 else 1 := by
  unfold usersB
  rw [List.take_succ_eq_append_getElem hk, List.countP_append]
  cases h : l[k].o <;> simp [h]
theorem users_le (l : List It) : usersB l ≤ l.length := List.countP_le_length ..

end Go.Proofs.YtlhobpknflobgaaGreatDoor
namespace Go.Proofs.YtlhobpknflobgaaGreatDoor
open Go.RowKit

/-- What a search asks. -/
def askB (tag : ByteArray) (t : Tr) (ours : Bool) (x : It) : Bool := (x.o || !ours) && isB x.t tag t

set_option maxHeartbeats 4000000 in
set_option maxRecDepth 100000 in
theorem first1_any {F G : Nat → Prop} {w : World} {x : It} {t : Tr} {sv tv : Value} {tag : ByteArray} {ours : Bool} {bo bs bt : Nat} (hx : TrV F w x.t sv) (ht : TrV G w t tv)
    (h1 : w.cell? ⟨bo, 0, none⟩ = some (.bool ours)) (h2 : w.cell? ⟨bs, 0, none⟩ = some (.string tag)) (h3 : NodeAt w bt 0 t tv) :
    Calls Tryz.prog 86 #[.agg #[.int .i8 x.t.k, .int .i64 x.t.n, .string x.t.s, .string x.t.t, sv, .bool x.o], .pointer (some ⟨bo, 0, none⟩), .pointer (some ⟨bs, 0, none⟩), .pointer (some ⟨bt, 0, none⟩)] w fun e w' => e = .returned (.bool (askB tag t ours x)) ∧ Below w.heap.size w w' := by
  obtain ⟨xt, xo⟩ := x
  dsimp only at hx ⊢
  obtain ⟨p1, c1, rfl⟩ := hx.kids.slice
  obtain ⟨p2, c2, rfl⟩ := ht.kids.slice
  have hb1 := alloc_below w (.cells #[.int .i8 xt.k, .int .i64 xt.n, .string xt.s, .string xt.t, .slice p1 xt.l.length c1, .bool xo] 65)
  obtain ⟨⟨a0, a1, a2, a3, a4⟩, a5⟩ := item_heap (heap_new w (.cells #[.int .i8 xt.k, .int .i64 xt.n, .string xt.s, .string xt.t, .slice p1 xt.l.length c1, .bool xo] 65))
  simp only [Nat.zero_add] at a1 a2 a3 a4
  have f1 := (hb1.cell (p := ⟨bo, 0, none⟩) (cell_block h1)).trans h1
  have f2 := (hb1.cell (p := ⟨bs, 0, none⟩) (cell_block h2)).trans h2
  obtain ⟨b0, b1, b2, b3, b4⟩ := h3.keep (hb1.block _ h3.lt)
  simp only [Nat.zero_add] at b1 b2 b3 b4
  have cI := is17_any (o := xo) (tag := tag) (hx.below hb1) (ht.below hb1)
  have HA := Lib.hid (show askB tag t ours ⟨xt, xo⟩ = ((xo || !ours) && isB xt tag t) from rfl)
  generalize isB xt tag t = ib at cI HA
  clear hx ht h1 h2 h3
  cases xo
  · cases ours
    · have HE : Hid (askB tag t false ⟨xt, false⟩ = ib) := by unfold Hid; rw [HA.out]; rfl
      go_enter Tryz.func86, Tryz.ntmps86
      go_wp2_with (go_at_call 87; refine cI.mono ?_; rintro e w5 ⟨rfl, hb5⟩)
      go_ret
      exact ⟨by rw [HE.out]; rfl, hb1.trans (hb5.mono hb1.size)⟩
    · have HE : Hid (askB tag t true ⟨xt, false⟩ = false) := by unfold Hid; rw [HA.out]; rfl
      go_enter Tryz.func86, Tryz.ntmps86
      go_wp2_with fail
      go_ret
      exact ⟨by rw [HE.out]; rfl, hb1⟩
  · have HE : Hid (askB tag t ours ⟨xt, true⟩ = ib) := by unfold Hid; rw [HA.out]; rfl
    go_enter Tryz.func86, Tryz.ntmps86
    go_wp2_with (go_at_call 87; refine cI.mono ?_; rintro e w5 ⟨rfl, hb5⟩)
    go_ret
    exact ⟨by rw [HE.out]; rfl, hb1.trans (hb5.mono hb1.size)⟩

/-- The first place where something holds, and whether there is one. -/
def pickV (k : Int) : Value := .tuple #[.int .i64 (if 0 ≤ k then k else 0), .bool (decide (0 ≤ k))]

set_option maxHeartbeats 4000000 in
set_option maxRecDepth 100000 in
theorem pickF_any {F : Nat → Prop} {P : It → Bool} {l : List It} {w : World} {v : Value} {bo bs bt : Nat} (hl : Items F w v l)
    (hP : ∀ x ∈ l, ∀ (W : World) (sv : Value), Below w.heap.size w W → TrV F W x.t sv → Calls Tryz.prog 86 #[.agg #[.int .i8 x.t.k, .int .i64 x.t.n, .string x.t.s, .string x.t.t, sv, .bool x.o], .pointer (some ⟨bo, 0, none⟩), .pointer (some ⟨bs, 0, none⟩), .pointer (some ⟨bt, 0, none⟩)] W fun e w' => e = .returned (.bool (P x)) ∧ Below W.heap.size W w') :
    Calls Tryz.prog 77 #[v, .func (Fn.func 86) #[] #[.pointer (some ⟨bo, 0, none⟩), .pointer (some ⟨bs, 0, none⟩), .pointer (some ⟨bt, 0, none⟩)]] w fun e w' => e = .returned (pickV (idxB P l)) ∧ Below w.heap.size w w' := by
  obtain ⟨p, c, rfl⟩ := hl.slice
  have hlen : l.length ≤ 2199023255552 := hl.len
  have HF := Lib.hid hP
  have HL := Lib.hid hl
  have HV := Lib.hid (show pickV (idxB P l) = .tuple #[.int .i64 (if 0 ≤ idxB P l then idxB P l else 0), .bool (decide (0 ≤ idxB P l))] from rfl)
  clear hP hl
  go_enter Tryz.func77, Tryz.ntmps77
  go_wp2
  go_loopw [10] (fun i wr => ∃ k : Nat, k ≤ l.length ∧ i = .int .i64 k ∧ (l.take k).all (fun x => !P x) = true ∧ Below w.heap.size w wr) (fun i _ => l.length - (intOf i).toNat)
  case atStart => exact ⟨0, Nat.zero_le _, rfl, rfl, Below.refl _ _⟩
  case round =>
    obtain ⟨k, hk, rfl, hall, hbr⟩ := hrel
    by_cases hlt : k < l.length
    · obtain ⟨g, o, kv, rfl, _, ⟨a0, a1, a2, a3, a4⟩, a5, hkid⟩ := (HL.out.under hbr).at hlt
      obtain ⟨p3, c3, rfl⟩ := hkid.kids.slice
      have hb3 := alloc_below wr (.cells #[.int .i8 l[k].t.k, .int .i64 l[k].t.n, .string l[k].t.s, .string l[k].t.t, .slice p3 l[k].t.l.length c3, .bool l[k].o] 65)
      obtain ⟨⟨b0, b1, b2, b3, b4⟩, b5⟩ := item_heap (heap_new wr (.cells #[.int .i8 l[k].t.k, .int .i64 l[k].t.n, .string l[k].t.s, .string l[k].t.t, .slice p3 l[k].t.l.length c3, .bool l[k].o] 65))
      simp only [Nat.zero_add] at b1 b2 b3 b4
      have hB3 := hbr.trans (hb3.mono hbr.size)
      have cK := HF.out l[k] (List.getElem_mem hlt) _ _ hB3 (hkid.below hb3)
      clear hkid
      cases hq : P l[k]
      · have hnext : (l.take (k + 1)).all (fun x => !P x) = true := by
          rw [List.take_succ_eq_append_getElem hlt, List.all_append, hall]; simp [hq]
        rw [hq] at cK
        have HN := Lib.hid hnext
        clear hnext hall hq
        go_wp2_with (go_at_call 86; refine cK.mono ?_; rintro e w5 ⟨rfl, hb5⟩)
        go_roundw
        case rel => exact ⟨k + 1, hlt, by go_num, HN.out, hB3.trans (hb5.mono hB3.size)⟩
        case measure => simp [intOf]; omega
      · have hfin := idx_here hlt hall hq
        rw [hq] at cK
        have HN : Hid (pickV (idxB P l) = .tuple #[.int .i64 k, .bool true]) := by unfold Hid; rw [HV.out, hfin]; simp
        clear hfin hall hq
        go_wp2_with (go_at_call 86; refine cK.mono ?_; rintro e w5 ⟨rfl, hb5⟩)
        go_ret2
        exact ⟨by rw [HN.out] <;> rfl, hB3.trans (hb5.mono hB3.size)⟩
    · rw [List.take_of_length_le (by omega)] at hall
      have HN : Hid (pickV (idxB P l) = .tuple #[.int .i64 0, .bool false]) := by unfold Hid; rw [HV.out, idx_none hall]; rfl
      clear hall
      go_wp2
      go_ret2
      exact ⟨by rw [HN.out] <;> rfl, hbr⟩

end Go.Proofs.YtlhobpknflobgaaGreatDoor
namespace Go.Proofs.YtlhobpknflobgaaGreatDoor
open Go.RowKit

/-- What Without tells. -/
def withB (tag : ByteArray) (t : Tr) (l : List It) : List It := l.filter fun x => !x.o || !isB x.t tag t
theorem with_take {tag : ByteArray} {t : Tr} {l : List It} {k : Nat} (hk : k < l.length) : withB tag t (l.take (k + 1)) = if (!l[k].o || !isB l[k].t tag t) = true then withB tag t (l.take k) ++ [l[k]] else withB tag t (l.take k) := by
  unfold withB
  rw [List.take_succ_eq_append_getElem hk, List.filter_append]
  cases h : (!l[k].o || !isB l[k].t tag t) <;> simp [List.filter, h]
theorem with_len (tag : ByteArray) (t : Tr) (l : List It) : (withB tag t l).length ≤ l.length := List.length_filter_le ..
/-- What the round knows. -/
def WoRel (tag : ByteArray) (t : Tr) (l : List It) (w1 : World) (out i : Value) (wr : World) : Prop :=
  ∃ k : Nat, k ≤ l.length ∧ i = .int .i64 k ∧ ∃ L : List (It × Value), IRow w1.heap.size wr out L ∧ L.map (·.1) = withB tag t (l.take k) ∧ Below w1.heap.size w1 wr
def WoPost (tag : ByteArray) (t : Tr) (l : List It) (w : World) (e : Ending) (w' : World) : Prop := ∃ v, e = .returned v ∧ Items (fun _ => True) w' v (withB tag t l) ∧ Below w.heap.size w w'

end Go.Proofs.YtlhobpknflobgaaGreatDoor
namespace Go.Proofs.YtlhobpknflobgaaGreatDoor
open Go.RowKit

/-- The same mailboxes? -/
def sameI : List It → List It → Bool
  | [], [] => true
  | x :: r, y :: s => (x.o == y.o && x.t.same y.t) && sameI r s
  | _, _ => false
theorem sameI_drop {l m : List It} {k : Nat} (h1 : k < l.length) (h2 : k < m.length) : sameI (l.drop k) (m.drop k) = ((l[k].o == m[k].o && l[k].t.same m[k].t) && sameI (l.drop (k + 1)) (m.drop (k + 1))) := by
  rw [List.drop_eq_getElem_cons h1, List.drop_eq_getElem_cons h2, sameI]
theorem sameI_len : ∀ {l m : List It}, sameI l m = true → l.length = m.length
  | [], [], _ => rfl
  | x :: r, y :: s, h => by rw [sameI, Bool.and_eq_true] at h; simp [sameI_len h.2]
theorem sameI_self : ∀ l : List It, sameI l l = true
  | [] => rfl
  | x :: r => by rw [sameI, sameI_self r, same_self]; simp

end Go.Proofs.YtlhobpknflobgaaGreatDoor
namespace Go.Proofs.YtlhobpknflobgaaGreatDoor
open Go.RowKit

theorem Items.turn {F : Nat → Prop} {w w' : World} {v : Value} {l : List It} (h : Items F w v l) {T : Nat → Prop} (ht : Turn T w w') (hT : ∀ g, F g → ¬ T g) : Items F w' v l := h.keep fun g hg hlt => ht.block g hlt (hT g hg)
def neB (x y : It) : Bool := !(x.o == y.o && x.t.same y.t)

set_option maxHeartbeats 4000000 in
set_option maxRecDepth 100000 in
theorem same1_any {F G : Nat → Prop} {W : World} {x : It} {m : List It} {k : Nat} {sv mv : Value} {ba bb : Nat} (hx : TrV F W x.t sv) (hF : ∀ g, F g → ¬ g = ba) (hm : Items G W mv m) (hG : ∀ g, G g → ¬ g = ba) (hk : k < m.length) (hn : ¬ bb = ba)
    (h1 : W.heap[ba]? = some (.cells #[.int .i64 ((k : Int) - 1)] 3 (0, 0))) (h2 : W.cell? ⟨bb, 0, none⟩ = some mv) :
    Calls Tryz.prog 89 #[.agg #[.int .i8 x.t.k, .int .i64 x.t.n, .string x.t.s, .string x.t.t, sv, .bool x.o], .pointer (some ⟨ba, 0, none⟩), .pointer (some ⟨bb, 0, none⟩)] W fun e w' => e = .returned (.bool (neB x m[k])) ∧ w'.heap[ba]? = some (.cells #[.int .i64 k] 3 (0, 0)) ∧ Turn (· = ba) W w' := by
  obtain ⟨xt, xo⟩ := x
  dsimp only at hx ⊢
  obtain ⟨p1, c1, rfl⟩ := hx.kids.slice
  obtain ⟨p, c, rfl⟩ := hm.slice
  have hlen : m.length ≤ 2199023255552 := hm.len
  have hlt0 : ba < W.heap.size := cell_block (one_cell h1)
  have hb1 := alloc_below W (.cells #[.int .i8 xt.k, .int .i64 xt.n, .string xt.s, .string xt.t, .slice p1 xt.l.length c1, .bool xo] 65)
  have n1 := heap_new W (.cells #[.int .i8 xt.k, .int .i64 xt.n, .string xt.s, .string xt.t, .slice p1 xt.l.length c1, .bool xo] 65)
  have g1 := (hb1.block ba hlt0).trans h1
  have g2 := (hb1.cell (p := ⟨bb, 0, none⟩) (cell_block h2)).trans h2
  have hx1 := hx.below hb1
  have hm1 := hm.under hb1
  have hw : IntKind.i64.wrap ((k : Int) - 1 + 1) = k := by rw [Int.sub_add_cancel]; rw [IntKind.wrap_i64]; omega
  have ht1 := Turn.trans (Turn.of_below (T := (· = ba)) hb1) (Turn.setCell (W.alloc (.cells #[.int .i8 xt.k, .int .i64 xt.n, .string xt.s, .string xt.t, .slice p1 xt.l.length c1, .bool xo] 65)) ⟨ba, 0, none⟩ (.int .i64 k))
  have hts := Turn.setCell (W.alloc (.cells #[.int .i8 xt.k, .int .i64 xt.n, .string xt.s, .string xt.t, .slice p1 xt.l.length c1, .bool xo] 65)) ⟨ba, 0, none⟩ (.int .i64 k)
  have k1 := one_set (u := .int .i64 k) g1
  have k2 := hts.cell g2 hn
  have hx2 := hx1.turn hts hF
  have hm2 := hm1.turn hts hG
  have n2 := (hts.block W.heap.size (by simp) (by show ¬ W.heap.size = ba; omega)).trans n1
  have c1' := one_cell g1
  have f1' := one_free g1
  clear hx hm h1 h2 hx1 hm1 n1 g2 hb1 hlt0
  generalize hm0 : m[k] = y
  have HY := Lib.hid hm0
  clear hm0
  go_enter Tryz.func89, Tryz.ntmps89
  go_upto_region 2 with fail
  try rw [hw]
  generalize (W.alloc (.cells #[.int .i8 xt.k, .int .i64 xt.n, .string xt.s, .string xt.t, .slice p1 xt.l.length c1, .bool xo] 65)).setCell ⟨ba, 0, none⟩ (.int .i64 k) = w2 at ht1 hts k1 k2 hx2 hm2 n2 ⊢
  clear hts c1' f1' g1
  obtain ⟨⟨a0, a1, a2, a3, a4⟩, a5⟩ := item_heap n2
  simp only [Nat.zero_add] at a1 a2 a3 a4
  have hck := one_cell k1
  obtain ⟨g, o, kv, rfl, _, hnode, b5, hkid⟩ := hm2.at hk
  rw [HY.out] at hnode b5 hkid
  clear hw HY n2 hm2
  obtain ⟨b0, b1, b2, b3, b4⟩ := hnode
  obtain ⟨yt, yo⟩ := y
  dsimp only at b0 b1 b2 b3 b4 b5 hkid
  obtain ⟨p3, c3, rfl⟩ := hkid.kids.slice
  have hbd : Below w2.heap.size w2 (w2.drewN 1) := below_drewN (Below.refl _ _) 1
  have cS := same17_any xt yt (w2.drewN 1) _ _ (hx2.below hbd) (hkid.below hbd)
  have HN := Lib.hid (show neB ⟨xt, xo⟩ ⟨yt, yo⟩ = !(xo == yo && xt.same yt) from rfl)
  generalize xt.same yt = sb at cS HN
  clear hx2 hkid
  cases xo <;> cases yo
  case' false.true =>
    have HE : Hid (neB ⟨xt, false⟩ ⟨yt, true⟩ = true) := by unfold Hid; rw [HN.out]; rfl
    clear cS HN
    go_quiet (fail)
  case' true.false =>
    have HE : Hid (neB ⟨xt, true⟩ ⟨yt, false⟩ = true) := by unfold Hid; rw [HN.out]; rfl
    clear cS HN
    go_quiet (fail)
  case' false.false =>
    have HE : Hid (neB ⟨xt, false⟩ ⟨yt, false⟩ = !sb) := by unfold Hid; rw [HN.out]; rfl
    clear HN
    go_still_tail 16, (by kernel_rfl)
    change wpList _ _ _ _ _ (w2.drewN 1)
    generalize w2.drewN 1 = w4 at hbd cS ⊢
    go_wp2_with (go_at_call 90; refine cS.mono ?_; rintro e w5 ⟨rfl, hb5⟩)
  case' true.true =>
    have HE : Hid (neB ⟨xt, true⟩ ⟨yt, true⟩ = !sb) := by unfold Hid; rw [HN.out]; rfl
    clear HN
    go_still_tail 16, (by kernel_rfl)
    change wpList _ _ _ _ _ (w2.drewN 1)
    generalize w2.drewN 1 = w4 at hbd cS ⊢
    go_wp2_with (go_at_call 90; refine cS.mono ?_; rintro e w5 ⟨rfl, hb5⟩)
  case false.true =>
    go_wp2_with fail
    go_ret
    exact ⟨by rw [HE.out]; rfl, k1, ht1.trans (Turn.of_below (below_drewN (Below.refl _ _) _))⟩
  case true.false =>
    go_wp2_with fail
    go_ret
    exact ⟨by rw [HE.out]; rfl, k1, ht1.trans (Turn.of_below (below_drewN (Below.refl _ _) _))⟩
  all_goals
    have hB := hbd.trans (hb5.mono hbd.size)
    go_ret
    exact ⟨by rw [HE.out]; rfl, (hB.block ba (cell_block hck)).trans k1, ht1.trans (Turn.of_below hB)⟩

theorem sameI_drop2 {l m : List It} {k : Nat} (h1 : k < l.length) (h2 : k < m.length) : sameI (l.drop k) (m.drop k) = (!neB l[k] m[k] && sameI (l.drop (k + 1)) (m.drop (k + 1))) := by
  rw [sameI_drop h1 h2]; simp [neB]

set_option maxHeartbeats 4000000 in
set_option maxRecDepth 100000 in
theorem pickS_any {F G : Nat → Prop} {l m : List It} {w : World} {v mv : Value} {ba bb : Nat} (hl : Items F w v l) (hF : ∀ g, F g → ¬ g = ba) (hm : Items G w mv m) (hG : ∀ g, G g → ¬ g = ba) (hlm : l.length = m.length) (hn : ¬ bb = ba)
    (h1 : w.heap[ba]? = some (.cells #[.int .i64 (-1)] 3 (0, 0))) (h2 : w.cell? ⟨bb, 0, none⟩ = some mv) :
    Calls Tryz.prog 77 #[v, .func (Fn.func 89) #[] #[.pointer (some ⟨ba, 0, none⟩), .pointer (some ⟨bb, 0, none⟩)]] w fun e w' => (∃ j : Int, e = .returned (.tuple #[.int .i64 j, .bool (!sameI l m)])) ∧ Turn (· = ba) w w' := by
  obtain ⟨p, c, rfl⟩ := hl.slice
  have hlen : l.length ≤ 2199023255552 := hl.len
  have HL := Lib.hid hl
  have HM := Lib.hid hm
  have HLM := Lib.hid hlm
  have H1 := Lib.hid h1
  have H2 := Lib.hid h2
  clear hl hm hlm h1 h2
  generalize hsm : sameI l m = sm
  have HSM := Lib.hid hsm
  clear hsm
  go_enter Tryz.func77, Tryz.ntmps77
  go_wp2
  go_loopw [10] (fun i wr => ∃ k : Nat, k ≤ l.length ∧ i = .int .i64 k ∧ sameI (l.drop k) (m.drop k) = sm ∧ wr.heap[ba]? = some (.cells #[.int .i64 ((k : Int) - 1)] 3 (0, 0)) ∧ Turn (· = ba) w wr) (fun i _ => l.length - (intOf i).toNat)
  case atStart => exact ⟨0, Nat.zero_le _, rfl, HSM.out, H1.out, Turn.refl _ _⟩
  case round =>
    obtain ⟨k, hk, rfl, hrest, hba, htr⟩ := hrel
    by_cases hlt : k < l.length
    · have hlt2 : k < m.length := by have := HLM.out; omega
      obtain ⟨g, o, kv, rfl, hg, ⟨a0, a1, a2, a3, a4⟩, a5, hkid⟩ := (HL.out.turn htr hF).at hlt
      obtain ⟨p3, c3, rfl⟩ := hkid.kids.slice
      rw [sameI_drop2 hlt hlt2] at hrest
      have hb3 := alloc_below wr (.cells #[.int .i8 l[k].t.k, .int .i64 l[k].t.n, .string l[k].t.s, .string l[k].t.t, .slice p3 l[k].t.l.length c3, .bool l[k].o] 65)
      obtain ⟨⟨b0, b1, b2, b3, b4⟩, b5⟩ := item_heap (heap_new wr (.cells #[.int .i8 l[k].t.k, .int .i64 l[k].t.n, .string l[k].t.s, .string l[k].t.t, .slice p3 l[k].t.l.length c3, .bool l[k].o] 65))
      simp only [Nat.zero_add] at b1 b2 b3 b4
      have ht3 := htr.trans (Turn.of_below hb3)
      have cK := same1_any (x := l[k]) (hkid.below hb3) hF (HM.out.turn ht3 hG) hG hlt2 hn ((hb3.block ba (cell_block (one_cell hba))).trans hba) (ht3.cell H2.out hn)
      clear hkid hba
      generalize l[k] = x at *
      generalize neB x m[k] = nb at cK hrest
      cases nb
      · have HN : Hid (sameI (l.drop (k + 1)) (m.drop (k + 1)) = sm) := by unfold Hid; rw [← hrest]; rfl
        clear hrest
        go_wp2_with (go_at_call 89; refine cK.mono ?_; rintro e w5 ⟨rfl, hb5, ht5⟩)
        go_roundw
        case rel => exact ⟨k + 1, hlt, by go_num, HN.out, by rw [hb5, show ((k + 1 : Nat) : Int) - 1 = (k : Int) from by omega], ht3.trans ht5⟩
        case measure => simp [intOf]; omega
      · have HN : Hid (sm = false) := by unfold Hid; rw [← hrest]; rfl
        clear hrest
        go_wp2_with (go_at_call 89; refine cK.mono ?_; rintro e w5 ⟨rfl, hb5, ht5⟩)
        go_ret2
        exact ⟨⟨k, by rw [HN.out]; rfl⟩, ht3.trans ht5⟩
    · rw [List.drop_eq_nil_of_le (by omega), List.drop_eq_nil_of_le (by have := HLM.out; omega)] at hrest
      have HN := Lib.hid hrest
      clear hrest
      go_wp2
      go_ret2
      exact ⟨⟨0, by rw [← HN.out]; rfl⟩, htr⟩

end Go.Proofs.YtlhobpknflobgaaGreatDoor
namespace Go.Proofs.YtlhobpknflobgaaGreatDoor
open Go.RowKit

theorem run_append_zero {P : Program} {w : World} (t ty e : TypeId) (i : TypeInfo) (ht : P.underlying t = some (.slice e)) (hi : P.info? e = some i) (p q : Option Addr) (n c c2 : Nat) (hn : n ≤ c) :
    (Builtin.append_ #[t, t] ty #[.slice p n c, .slice q 0 c2]).run P w = .ok (.slice p n c) w := by
  cases q with
  | none => cases p <;> simp [Builtin.append_, run_underlying ht, sizeOf, typeInfo, hi, Builtin.lenOf, Builtin.firstCells, hn, storeCells]
  | some a =>
    have hf := run_firstCells_some (P := P) w i.size 0 a 0 c2 [] (by simp) (by simp)
    cases p <;> simp [Builtin.append_, run_underlying ht, sizeOf, typeInfo, hi, Builtin.lenOf, hf, hn, storeCells]

set_option maxRecDepth 10000 in
/-- An append behind a slice of items that is full. -/
theorem run_append_full {w : World} (ty : TypeId) {F G : Nat → Prop} (p : Option Addr) (n : Nat) (l : List It) (hs : Items F w (.slice p n n) l) (q : Option Addr) (m c2 : Nat) (r : List It) (hx : Items G w (.slice q m c2) r)
    (hlen : l.length + r.length ≤ 1048576) {H : Nat → Prop} (hFH : ∀ g, F g → H g) (hGH : ∀ g, G g → H g) (hH : ∀ g, w.heap.size ≤ g → H g) :
    ∃ v' w', (Builtin.append_ #[55, 55] ty #[.slice p n n, .slice q m c2]).run Tryz.prog w = .ok v' w' ∧ Items H w' v' (l ++ r) ∧ Below w.heap.size w w' := by
  obtain ⟨i0, hi, hz0, hz1, hz2⟩ := info_parts infoItem
  have hn : n = l.length := hs.room.1
  have hm : m = r.length := hx.room.1
  by_cases hr : r = []
  · subst hr
    subst hm
    exact ⟨_, _, run_append_zero _ ty _ i0 Tryz.underlying55 hi p q n n c2 (Nat.le_refl _), by rw [List.append_nil]; exact hs.mono fun g hg _ => hFH g hg, Below.refl _ _⟩
  have hr0 : 0 < r.length := by cases r with | nil => exact absurd rfl hr | cons a b => simp
  obtain ⟨L, hLm, hLt, hLc⟩ := hs.cells
  obtain ⟨R, hRm, hRt, hRc⟩ := hx.cells
  have hLl : L.length = l.length := by rw [← hLm, List.length_map]
  have hRl : R.length = r.length := by rw [← hRm, List.length_map]
  have hpl : ∀ u ∈ R.flatMap icells, u.oneCell' = true := fun u hu => by
    obtain ⟨q, hq, hu⟩ := List.mem_flatMap.1 hu
    exact icells_plain (hRt q hq) u hu
  have fin : ∀ v' w', w'.ownsRow w.heap.size 65 6 v' (n + m) (L.flatMap icells ++ R.flatMap icells) → w.grownBy w' none → Items H w' v' (l ++ r) ∧ Below w.heap.size w w' := by
    intro v' w' hown hg
    have hB : Below w.heap.size w w' := (Below.refl _ _).grown hg (Nat.le_refl _) (fun j hj => by cases hj)
    refine ⟨?_, hB⟩
    have := items_row (F := H) (L := L ++ R) (by rw [List.length_append, List.flatMap_append, hLl, hRl, ← hn, ← hm]; exact hown) hH (fun q hq => ?_) (by rw [List.length_append]; unfold BL; omega)
    · rwa [List.map_append, hLm, hRm] at this
    · rcases List.mem_append.1 hq with hq | hq
      · have h := (hLt q hq).below hB
        exact ⟨h.wf, h.kids.mono fun g hg _ => hFH g hg⟩
      · have h := (hRt q hq).below hB
        exact ⟨h.wf, h.kids.mono fun g hg _ => hGH g hg⟩
  cases q with
  | none => exact absurd (hx.none).1 (by omega)
  | some ad =>
    cases p with
    | some b =>
      obtain ⟨v', w', hrun, r1, r2⟩ := run_append_arg_grows (P := Tryz.prog) w 55 ty 65 i0 _ 6 80 Tryz.underlying55 hi hz0 hz1 hz2 rfl (by decide) b n n (L.flatMap icells) (by rw [flat6i_len, hLl, hn]) (hLc b rfl) ad m c2 (R.flatMap icells) (by rw [flat6i_len, hRl, hm]) (hRc ad rfl) (by omega) (by unfold maxLen; omega) (by omega)
      exact ⟨v', w', hrun, fin v' w' r1 r2⟩
    | none =>
      obtain ⟨h0, h1⟩ := hs.none
      obtain rfl : L = [] := List.eq_nil_of_length_eq_zero (by omega)
      obtain rfl : n = 0 := by omega
      obtain ⟨v', w', hrun, r1, r2, _⟩ := run_append_own (P := Tryz.prog) w w.heap.size 55 ty 65 i0 _ 6 80 Tryz.underlying55 hi hz0 hz1 hz2 rfl (by decide) (.slice none 0 0) 0 [] (World.ownsRow_nil w _ 65 6) ad m c2 (R.flatMap icells) (by rw [flat6i_len, hRl, hm]) (hRc ad rfl) hpl (by unfold maxLen; omega) (by omega) (Nat.le_refl _)
      exact ⟨v', w', hrun, fin v' w' r1 r2⟩
/-- As one step of a region that draws. -/
theorem step_append_full {w : World} {ops : Array Oper} {o : Oper} {a : Act} {K : Act → World → Prop} {Q : Exit → Act → World → Prop} {E : Prop} (hgd : o.guard = none) (s x : Operand)
    (ho : o.op = .call { callee := .builtin .append, args := #[s, x], argTypes := #[55, 55] }) {F G : Nat → Prop}
    (p : Option Addr) (n : Nat) (l : List It) (hsv : a.eval s = .slice p n n) (hs : Items F w (.slice p n n) l) (q : Option Addr) (m c2 : Nat) (r : List It) (hxv : a.eval x = .slice q m c2) (hx : Items G w (.slice q m c2) r)
    (hlen : l.length + r.length ≤ 1048576) {H : Nat → Prop} (hFH : ∀ g, F g → H g) (hGH : ∀ g, G g → H g) (hH : ∀ g, w.heap.size ≤ g → H g)
    (h : ∀ v' w', Items H w' v' (l ++ r) → Below w.heap.size w w' → K (a.put o.dst v') w') :
    if Region.wanted o (yielded ops a.tmps) = true then Oper.wp Tryz.prog o a w K Q else E := by
  have hw : Region.wanted o (yielded ops a.tmps) = true := by simp [Region.wanted, hgd]
  rw [if_pos hw]
  obtain ⟨v', w', hr, k1, k2⟩ := run_append_full (w := w) o.type p n l hs q m c2 r hx hlen hFH hGH hH
  unfold Oper.wp
  simp [execOp, ho, resolve, invoke, builtin, hsv, hxv, hr, Result.andThen]
  exact h v' w' k1 k2

def zeroI : It := ⟨zeroT, false⟩
/-- An item's six cells, as an array. -/
def cells6 (x : It) (sv : Value) : Array Value := #[.int .i8 x.t.k, .int .i64 x.t.n, .string x.t.s, .string x.t.t, sv, .bool x.o]
theorem size69 (x : It) (sv : Value) : (Tryz.prog.info? 65).map (·.size) = some (cells6 x sv).size := by kernel_rfl
theorem info69 (w : World) (g : Nat) (x : It) (sv : Value) (hg : w.heap[g]? = some (.cells (cells6 x sv) 65 (0, 0))) : (loadVar 65 ⟨g, 0, none⟩).run Tryz.prog w = .ok (.agg (cells6 x sv)) w :=
  run_loadVar_row w g 65 65 (cells6 x sv) (0, 0) _ hg Tryz.underlying65 rfl (size69 x sv)
theorem results_item {fn : Func} {a p u : Tmp} (h : fn.results = #[.tmp a, .cell p 65, .tmp u]) (tmps : Array Value) (w : World) (g : Nat) (x : It) (sv : Value) (hp : tmps.getD p undef = .pointer (some ⟨g, 0, none⟩)) (hg : w.heap[g]? = some (.cells (cells6 x sv) 65 (0, 0))) :
    (results fn tmps).run Tryz.prog w = .ok (.tuple #[tmps.getD a undef, .agg (cells6 x sv), tmps.getD u undef]) w := by
  have h0 : (results fn tmps).run Tryz.prog w = ((asAddr (tmps.getD p undef)).run Tryz.prog w).andThen fun b w₁ => ((loadVar 65 b).run Tryz.prog w₁).andThen fun v w₂ => .ok (.tuple #[tmps.getD a undef, v, tmps.getD u undef]) w₂ := by
    simp only [results, h]
    simp [Sem.run_bind, Result.andThen]
  rw [h0, hp]
  simp only [asAddr, Sem.run_pure, Result.andThen, info69 w g x sv hg]

def setSix (w : World) (b : Nat) (x : It) (sv : Value) : World := (((((w.setCell ⟨b, 0, none⟩ (.int .i8 x.t.k)).setCell ⟨b, 1, none⟩ (.int .i64 x.t.n)).setCell ⟨b, 2, none⟩ (.string x.t.s)).setCell ⟨b, 3, none⟩ (.string x.t.t)).setCell ⟨b, 4, none⟩ sv).setCell ⟨b, 5, none⟩ (.bool x.o)
theorem six_heap {w : World} {b : Nat} {z x : It} {zv sv : Value} {T : TypeId} (h : w.heap[b]? = some (.cells (cells6 z zv) T (0, 0))) : (setSix w b x sv).heap[b]? = some (.cells (cells6 x sv) T (0, 0)) := by
  have h0 := arr_set (i := 0) (u := .int .i8 x.t.k) h
  have h1 := arr_set (i := 1) (u := .int .i64 x.t.n) h0
  have h2 := arr_set (i := 2) (u := .string x.t.s) h1
  have h3 := arr_set (i := 3) (u := .string x.t.t) h2
  have h4 := arr_set (i := 4) (u := sv) h3
  have h5 := arr_set (i := 5) (u := .bool x.o) h4
  unfold setSix
  rw [h5]
  have e : ((((((cells6 z zv).modify 0 fun _ => .int .i8 x.t.k).modify 1 fun _ => .int .i64 x.t.n).modify 2 fun _ => .string x.t.s).modify 3 fun _ => .string x.t.t).modify 4 fun _ => sv).modify 5 (fun _ => .bool x.o) = cells6 x sv := by kernel_rfl
  rw [e]
theorem six_facts {w : World} {b : Nat} {x : It} {sv : Value} {T : TypeId} (h : w.heap[b]? = some (.cells (cells6 x sv) T (0, 0))) :
    b < w.heap.size ∧ (w.cell? ⟨b, 0, none⟩ = some (.int .i8 x.t.k) ∧ w.cell? ⟨b, 1, none⟩ = some (.int .i64 x.t.n) ∧ w.cell? ⟨b, 2, none⟩ = some (.string x.t.s) ∧ w.cell? ⟨b, 3, none⟩ = some (.string x.t.t) ∧ w.cell? ⟨b, 4, none⟩ = some sv ∧ w.cell? ⟨b, 5, none⟩ = some (.bool x.o)) ∧
    (w.frozen? ⟨b, 0, none⟩ = false ∧ w.frozen? ⟨b, 1, none⟩ = false ∧ w.frozen? ⟨b, 2, none⟩ = false ∧ w.frozen? ⟨b, 3, none⟩ = false ∧ w.frozen? ⟨b, 4, none⟩ = false ∧ w.frozen? ⟨b, 5, none⟩ = false) :=
  have c : ∀ i, w.cell? ⟨b, i, none⟩ = (cells6 x sv)[i]? := fun _ => arr_cell h
  have c0 : w.cell? ⟨b, 0, none⟩ = some (.int .i8 x.t.k) := c 0
  ⟨cell_block c0, ⟨c0, c 1, c 2, c 3, c 4, c 5⟩, arr_free h, arr_free h, arr_free h, arr_free h, arr_free h, arr_free h⟩
theorem below_set (w : World) {b B : Nat} (i : Nat) (u : Value) (hB : B ≤ b) : Below B w (w.setCell ⟨b, i, none⟩ u) :=
  ⟨rfl, rfl, rfl, by simp [World.setCell], fun k hk => Below.heap_setCell _ _ _ _ (by simp only; omega)⟩
theorem six_below {w : World} {b B : Nat} (x : It) (sv : Value) (hB : B ≤ b) : Below B w (setSix w b x sv) := by
  have h1 := below_set w 0 (.int .i8 x.t.k) hB
  have h2 := h1.trans (below_set _ 1 (.int .i64 x.t.n) hB)
  have h3 := h2.trans (below_set _ 2 (.string x.t.s) hB)
  have h4 := h3.trans (below_set _ 3 (.string x.t.t) hB)
  have h5 := h4.trans (below_set _ 4 sv hB)
  exact h5.trans (below_set _ 5 (.bool x.o) hB)
theorem six_block {w : World} {b : Nat} (x : It) (sv : Value) {k : Nat} (hk : k ≠ b) : (setSix w b x sv).heap[k]? = w.heap[k]? := by
  have h := fun (W : World) (i : Nat) (u : Value) => Below.heap_setCell W ⟨b, i, none⟩ u k hk
  unfold setSix
  rw [h, h, h, h, h, h]

def inR (l : List It) (a : Int) : Prop := 0 ≤ a ∧ a < l.length
/-- What taking one out tells. -/
def TkSays (l : List It) (a : Int) (w : World) (e : Ending) (w' : World) : Prop :=
  ∃ v x sv er m, e = .returned (.tuple #[v, .agg (cells6 x sv), .int .i64 er]) ∧ Items (fun _ => True) w' v m ∧ TrV (fun _ => True) w' x.t sv ∧ Below w.heap.size w w' ∧
    ((¬ inR l a ∧ m = [] ∧ x = zeroI ∧ er = 4) ∨ ∃ k : Nat, ∃ h : k < l.length, a = k ∧ m = l.take k ++ l.drop (k + 1) ∧ x = l[k] ∧ er = 0)

end Go.Proofs.YtlhobpknflobgaaGreatDoor
namespace Go.Proofs.YtlhobpknflobgaaGreatDoor
open Go.RowKit

/-- A row of the call's own, with items whose trees lie in F. -/
structure IRow2 (F : Nat → Prop) (base : Nat) (w : World) (v : Value) (L : List (It × Value)) : Prop where
  own : w.ownsRow base 65 6 v L.length (L.flatMap icells)
  at_ : ∀ q ∈ L, TrV F w q.1.t q.2
theorem IRow2.nil (F : Nat → Prop) (base : Nat) (w : World) : IRow2 F base w (.slice none 0 0) [] := ⟨World.ownsRow_nil .., fun q hq => by simp at hq⟩
theorem IRow2.under {F : Nat → Prop} {base : Nat} {w w' : World} {v : Value} {L : List (It × Value)} (h : IRow2 F base w v L) (hb : Below w.heap.size w w') : IRow2 F base w' v L := ⟨row_under h.own hb, fun q hq => (h.at_ q hq).below hb⟩
set_option maxRecDepth 10000 in
theorem run_append_items2 {w : World} (ty : TypeId) (F : Nat → Prop) (base : Nat) (hF : ∀ g, F g → g < base) (v : Value) (L : List (It × Value)) (hrow : IRow2 F base w v L) (p : Option Addr) (n c : Nat) (l : List It) (hsrc : Items F w (.slice p n c) l)
    (hlen : L.length + l.length ≤ 1048576) (hbase : base ≤ w.heap.size) :
    ∃ v' w' L', (Builtin.append_ #[55, 55] ty #[v, .slice p n c]).run Tryz.prog w = .ok v' w' ∧ IRow2 F base w' v' (L ++ L') ∧ L'.map (·.1) = l ∧ Below base w w' := by
  obtain ⟨i0, hi, hz0, hz1, hz2⟩ := info_parts infoItem
  obtain ⟨Ls, hLm, hLt, hLc⟩ := hsrc.cells
  have hLl : Ls.length = l.length := by rw [← hLm, List.length_map]
  have hn : n = l.length := hsrc.room.1
  cases p with
  | none =>
    obtain ⟨h1, h2⟩ := hsrc.none
    obtain rfl : Ls = [] := List.eq_nil_of_length_eq_zero (by omega)
    obtain rfl : c = 0 := h2
    obtain rfl : n = 0 := by omega
    exact ⟨v, w, [], run_append_owned_none (P := Tryz.prog) (w := w) base 55 ty 65 i0 6 Tryz.underlying55 hi v L.length (L.flatMap icells) hrow.own, by rw [List.append_nil]; exact hrow, hLm, Below.refl _ _⟩
  | some ad =>
    obtain ⟨v', w', hr, hown, hg, _⟩ := run_append_own (P := Tryz.prog) w base 55 ty 65 i0 _ 6 80 Tryz.underlying55 hi hz0 hz1 hz2 rfl (by decide) v L.length (L.flatMap icells) hrow.own ad n c (Ls.flatMap icells) (by rw [flat6i_len, hLl, hn]) (hLc ad rfl)
      (fun u hu => by obtain ⟨q, hq, hu⟩ := List.mem_flatMap.1 hu; exact icells_plain (hLt q hq) u hu) (by unfold maxLen; omega) (by omega) hbase
    have hB : Below base w w' := (Below.refl _ _).grown hg hbase (row_base hrow.own)
    refine ⟨v', w', Ls, hr, ⟨by rw [List.length_append, List.flatMap_append, hLl, ← hn]; exact hown, fun q hq => ?_⟩, hLm, hB⟩
    have hq' : TrV F w q.1.t q.2 := by
      rcases List.mem_append.1 hq with hq | hq
      · exact hrow.at_ q hq
      · exact hLt q hq
    exact ⟨hq'.wf, hq'.kids.keep fun g hg' hl => hB.block g (hF g hg')⟩
theorem wpList_append_items2 {w : World} {ops : Array Oper} {rest : List Oper} {o : Oper} {a : Act} {Q : Exit → Act → World → Prop} (hgd : o.guard = none) (s x : Operand)
    (ho : o.op = .call { callee := .builtin .append, args := #[s, x], argTypes := #[55, 55] })
    (F : Nat → Prop) (base : Nat) (hF : ∀ g, F g → g < base) (v : Value) (L : List (It × Value)) (hs : a.eval s = v) (hrow : IRow2 F base w v L) (p : Option Addr) (n c : Nat) (l : List It) (hx : a.eval x = .slice p n c) (hsrc : Items F w (.slice p n c) l)
    (hlen : L.length + l.length ≤ 1048576) (hbase : base ≤ w.heap.size)
    (h : ∀ v' w' L', IRow2 F base w' v' (L ++ L') → L'.map (·.1) = l → Below base w w' → wpList Tryz.prog ops Q rest (a.put o.dst v') w') : wpList Tryz.prog ops Q (o :: rest) a w := by
  refine wpList_plain hgd fun K hK => ?_
  obtain ⟨v', w', L', hr, k1, k2, k3⟩ := run_append_items2 o.type F base hF v L hrow p n c l hsrc hlen hbase
  unfold Oper.wp
  simp [execOp, ho, resolve, invoke, builtin, hs, hx, hr, Result.andThen]
  exact hK _ _ (h v' w' L' k1 k2 k3)
theorem step_append_items2 {w : World} {ops : Array Oper} {o : Oper} {a : Act} {K : Act → World → Prop} {Q : Exit → Act → World → Prop} {E : Prop} (hgd : o.guard = none) (s x : Operand)
    (ho : o.op = .call { callee := .builtin .append, args := #[s, x], argTypes := #[55, 55] })
    (F : Nat → Prop) (base : Nat) (hF : ∀ g, F g → g < base) (v : Value) (L : List (It × Value)) (hs : a.eval s = v) (hrow : IRow2 F base w v L) (p : Option Addr) (n c : Nat) (l : List It) (hx : a.eval x = .slice p n c) (hsrc : Items F w (.slice p n c) l)
    (hlen : L.length + l.length ≤ 1048576) (hbase : base ≤ w.heap.size)
    (h : ∀ v' w' L', IRow2 F base w' v' (L ++ L') → L'.map (·.1) = l → Below base w w' → K (a.put o.dst v') w') :
    if Region.wanted o (yielded ops a.tmps) = true then Oper.wp Tryz.prog o a w K Q else E := by
  have hw : Region.wanted o (yielded ops a.tmps) = true := by simp [Region.wanted, hgd]
  rw [if_pos hw]
  obtain ⟨v', w', L', hr, k1, k2, k3⟩ := run_append_items2 o.type F base hF v L hrow p n c l hsrc hlen hbase
  unfold Oper.wp
  simp [execOp, ho, resolve, invoke, builtin, hs, hx, hr, Result.andThen]
  exact h v' w' L' k1 k2 k3

end Go.Proofs.YtlhobpknflobgaaGreatDoor
namespace Go.Proofs.YtlhobpknflobgaaGreatDoor
open Go.RowKit

/-- A guard of no tests. -/
def eG : Tr := .mk 4 0 ⟨#[]⟩ ⟨#[]⟩ []

set_option maxHeartbeats 1000000 in
set_option maxRecDepth 100000 in
theorem eachE_any (w : World) (p : Option Addr) (c : Nat) :
    Calls Tryz.prog 144 #[.slice p 0 c, .func (Fn.func 96) #[] #[]] w fun e w' => e = .returned (.bool true) ∧ Below w.heap.size w w' := by
  go_enter Tryz.func144, Tryz.ntmps144
  go_wp2
  go_loopw [8] (fun i wr => i = .int .i64 0 ∧ Below w.heap.size w wr) (fun i _ => 0)
  case atStart => exact ⟨rfl, Below.refl _ _⟩
  case round =>
    obtain ⟨rfl, hbr⟩ := hrel
    go_wp2
    go_ret
    exact ⟨rfl, hbr⟩

set_option maxHeartbeats 4000000 in
set_option maxRecDepth 100000 in
theorem guardE_any {F : Nat → Prop} {w : World} {g o : Nat} {sv : Value} (h : NodeAt w g o eG sv) (hx : TrV F w eG sv) :
    Calls Tryz.prog 103 #[.pointer (some ⟨g, o, none⟩)] w fun e w' => e = .returned (.bool true) ∧ Below w.heap.size w w' := by
  obtain ⟨p, c, rfl⟩ := hx.kids.slice
  have cO := only_any h false false false true
  rw [show bareB eG false false false true = true by kernel_rfl] at cO
  have hk := fun W (hb : Below w.heap.size w W) => h.keep (hb.block _ h.lt)
  obtain ⟨a0, a1, a2, a3, a4⟩ := h
  have HK := Lib.hid hk
  clear hx hk
  change w.cell? _ = some (.int .i8 4) at a0
  change w.cell? _ = some (.slice p 0 c) at a4
  clear a1 a2 a3
  go_enter Tryz.func103, Tryz.ntmps103
  go_wp2_with (first
    | (go_at_call 142; refine cO.mono ?_; rintro e w5 ⟨rfl, hb5⟩; have b4 : w5.cell? ⟨g, o + 4, none⟩ = some (.slice p 0 c) := (HK.out w5 hb5).l; have cE := eachE_any w5 p c)
    | (go_at_call 144; refine cE.mono ?_; rintro e w6 ⟨rfl, hb6⟩; have hB6 := hb5.trans (hb6.mono hb5.size)))
  go_ret
  exact ⟨rfl, hB6⟩

set_option maxHeartbeats 4000000 in
set_option maxRecDepth 100000 in
theorem guardEmpty_any {F : Nat → Prop} {w : World} {sv : Value} (hx : TrV F w eG sv) :
    Calls Tryz.prog 57 #[.agg #[.int .i8 4, .int .i64 0, .string ⟨#[]⟩, .string ⟨#[]⟩, sv]] w fun e w' => e = .returned (.bool true) ∧ Below w.heap.size w w' := by
  obtain ⟨p, c, rfl⟩ := hx.kids.slice
  obtain ⟨hb1, hz1, hn1⟩ := node_box w 25 4 0 ⟨#[]⟩ ⟨#[]⟩ (.slice p 0 c)
  have hx1 := hx.below hb1
  clear hx
  have hn1 : NodeAt (w.alloc (.cells #[.int .i8 4, .int .i64 0, .string ⟨#[]⟩, .string ⟨#[]⟩, .slice p 0 c] 25)) w.heap.size 0 eG (.slice p 0 c) := ⟨hn1.k, hn1.n, hn1.s, hn1.t, hn1.l⟩
  change Calls _ _ #[.agg #[.int .i8 4, .int .i64 0, .string ⟨#[]⟩, .string ⟨#[]⟩, .slice p 0 c]] _ _
  change TrV F _ eG (.slice p 0 c) at hx1
  go_enter Tryz.func57, Tryz.ntmps57
  go_upto_region 1 with fail
  generalize w.alloc (.cells #[.int .i8 4, .int .i64 0, .string ⟨#[]⟩, .string ⟨#[]⟩, .slice p 0 c] 25) = w1 at hb1 hz1 hn1 hx1 ⊢
  have cM := measure_any hn1 hx1
  rw [show eG.sz 4097 = 1 by kernel_rfl, show eG.dp 65 = 1 by kernel_rfl] at cM
  have cF := fun W => sfits_any W 1 1
  rw [show (decide ((1 : Int) ≤ 4096) && decide ((1 : Int) ≤ 64)) = true from rfl] at cF
  have cP := fun (W : World) (hb : Below w1.heap.size w1 W) => guardE_any (hn1.keep (hb.block _ hn1.lt)) (hx1.below hb)
  clear hn1 hx1
  go_wp2_with (first
    | (go_at_call 94; refine cM.mono ?_; rintro e w5 ⟨rfl, hb5⟩)
    | (go_at_call 95; refine (cF w5).mono ?_; rintro e w6 ⟨rfl, hb6⟩; have hB6 := hb5.trans (hb6.mono hb5.size))
    | (go_at_call 103; refine (cP _ hB6).mono ?_; rintro e w7 ⟨rfl, hb7⟩; have hB7 := hB6.trans (hb7.mono hB6.size)))
  go_ret
  exact ⟨rfl, hb1.trans (hB7.mono hb1.size)⟩
end Go.Proofs.YtlhobpknflobgaaGreatDoor
namespace Go.Proofs.YtlhobpknflobgaaGreatDoor
open Go.RowKit

set_option maxHeartbeats 4000000 in
set_option maxRecDepth 100000 in
theorem holdsE_any {F G : Nat → Prop} {w : World} {sv v : Value} {l : List Bd} (hL : Letters w) (hx : TrV F w eG sv) (hl : Binds G w v l) :
    Calls Tryz.prog 18 #[.agg #[.int .i8 4, .int .i64 0, .string ⟨#[]⟩, .string ⟨#[]⟩, sv], v] w fun e w' => e = .returned (.bool (gmayB l)) ∧ Below w.heap.size w w' := by
  obtain ⟨p, c, rfl⟩ := hx.kids.slice
  obtain ⟨p2, c2, rfl⟩ := hl.slice
  obtain ⟨hb1, hz1, hn1⟩ := node_box w 25 4 0 ⟨#[]⟩ ⟨#[]⟩ (.slice p 0 c)
  have hx1 := hx.below hb1
  have hl1 := hl.under hb1
  have hL1 := hL.under hb1
  have hlen : l.length ≤ 2199023255552 := hl.len
  clear hx hl hL
  have hn1 : NodeAt (w.alloc (.cells #[.int .i8 4, .int .i64 0, .string ⟨#[]⟩, .string ⟨#[]⟩, .slice p 0 c] 25)) w.heap.size 0 eG (.slice p 0 c) := ⟨hn1.k, hn1.n, hn1.s, hn1.t, hn1.l⟩
  change Calls _ _ #[.agg #[.int .i8 4, .int .i64 0, .string ⟨#[]⟩, .string ⟨#[]⟩, .slice p 0 c], _] _ _
  change TrV F _ eG (.slice p 0 c) at hx1
  generalize hq : gmayB l = q
  have HQ := Lib.hid hq
  clear hq
  go_enter Tryz.func18, Tryz.ntmps18
  go_upto_region 1 with fail
  generalize w.alloc (.cells #[.int .i8 4, .int .i64 0, .string ⟨#[]⟩, .string ⟨#[]⟩, .slice p 0 c] 25) = w1 at hb1 hz1 hn1 hx1 hl1 hL1 ⊢
  have cG := guardEmpty_any hx1
  have cM := fun (W : World) (hb : Below w1.heap.size w1 W) => gmay_any (hL1.under hb) (hl1.under hb)
  rw [HQ.out] at cM
  have h4 : ∀ (W : World), Below w1.heap.size w1 W → W.cell? ⟨w.heap.size, 4, none⟩ = some (.slice p 0 c) := fun W hb => (hn1.keep (hb.block _ hn1.lt)).l
  have a0 : w1.cell? ⟨w.heap.size, 0, none⟩ = some (.int .i8 4) := hn1.k
  have a1 : w1.cell? ⟨w.heap.size, 1, none⟩ = some (.int .i64 0) := hn1.n
  have a2 : w1.cell? ⟨w.heap.size, 2, none⟩ = some (.string ⟨#[]⟩) := hn1.s
  have a3 : w1.cell? ⟨w.heap.size, 3, none⟩ = some (.string ⟨#[]⟩) := hn1.t
  have a4 : w1.cell? ⟨w.heap.size, 4, none⟩ = some (.slice p 0 c) := hn1.l
  have H4 := Lib.hid h4
  clear hx1 hl1 hL1 hn1 h4
  cases q
  · go_wp2_with (first
      | (go_at_call 57; refine cG.mono ?_; rintro e w5 ⟨rfl, hb5⟩)
      | (go_at_call 55; refine (cM _ hb5).mono ?_; rintro e w6 ⟨rfl, hb6⟩; have hB6 := hb5.trans (hb6.mono hb5.size)))
    go_ret
    exact ⟨rfl, hb1.trans (hB6.mono hb1.size)⟩
  · go_wp2_with (first
      | (go_at_call 57; refine cG.mono ?_; rintro e w5 ⟨rfl, hb5⟩)
      | (go_at_call 55; refine (cM _ hb5).mono ?_; rintro e w6 ⟨rfl, hb6⟩; have hB6 := hb5.trans (hb6.mono hb5.size); have b4 := H4.out _ hB6))
    go_loopw [20] (fun i wr => i = .int .i64 0 ∧ Below w1.heap.size w1 wr) (fun i _ => 0)
    case atStart => exact ⟨rfl, hB6⟩
    case round =>
      obtain ⟨rfl, hbr⟩ := hrel
      go_wp2
      go_ret
      exact ⟨rfl, hb1.trans (hbr.mono hb1.size)⟩

/-- May a tree be a clause of one pattern? -/
def clB (gB : Tr → Bool) (x : Tr) : Bool := (x.k == 3 && x.n == 1 && decide (2 ≤ x.l.length)) && (patB (x.l.getD 0 zeroT) && gB (x.l.getD 1 zeroT))

set_option maxHeartbeats 4000000 in
set_option maxRecDepth 100000 in
theorem clause_any {F : Nat → Prop} {gB : Tr → Bool} {w : World} {x : Tr} {sv : Value} (hL : Letters w) (hx : TrV F w x sv)
    (hG : ∀ (h : 1 < x.l.length) (W : World) (tv : Value), Below w.heap.size w W → TrV F W x.l[1] tv → Calls Tryz.prog 57 #[.agg #[.int .i8 x.l[1].k, .int .i64 x.l[1].n, .string x.l[1].s, .string x.l[1].t, tv]] W fun e w' => e = .returned (.bool (gB x.l[1])) ∧ Below W.heap.size W w') :
    Calls Tryz.prog 76 #[.agg #[.int .i8 x.k, .int .i64 x.n, .string x.s, .string x.t, sv]] w fun e w' => e = .returned (.bool (clB gB x)) ∧ Below w.heap.size w w' := by
  obtain ⟨p, c, rfl⟩ := hx.kids.slice
  have hlen : x.l.length ≤ 2199023255552 := hx.kids.len
  obtain ⟨hb1, hz1, hn1⟩ := node_box w 25 x.k x.n x.s x.t (.slice p x.l.length c)
  have hx1 := hx.below hb1
  have hL1 := hL.under hb1
  have hn1 : NodeAt (w.alloc (.cells #[.int .i8 x.k, .int .i64 x.n, .string x.s, .string x.t, .slice p x.l.length c] 25)) w.heap.size 0 x (.slice p x.l.length c) := ⟨hn1.k, hn1.n, hn1.s, hn1.t, hn1.l⟩
  have a0 := hn1.k
  have a1 := hn1.n
  have a2 := hn1.s
  have a3 := hn1.t
  have a4 := hn1.l
  simp only [Nat.zero_add] at a1 a2 a3 a4
  have HC := Lib.hid (show clB gB x = ((x.k == 3 && x.n == 1 && decide (2 ≤ x.l.length)) && (patB (x.l.getD 0 zeroT) && gB (x.l.getD 1 zeroT))) from rfl)
  have HG := Lib.hid hG
  clear hL hx hn1 hG
  generalize hcl : clB gB x = cl at HC ⊢
  clear hcl
  go_enter Tryz.func76, Tryz.ntmps76
  go_upto_region 1 with fail
  generalize w.alloc (.cells #[.int .i8 x.k, .int .i64 x.n, .string x.s, .string x.t, .slice p x.l.length c] 25) = w1 at hb1 hz1 a0 a1 a2 a3 a4 hx1 hL1 ⊢
  cases h1 : (x.k == 3)
  · have HN : Hid (cl = false) := by unfold Hid; rw [HC.out, h1]; rfl
    clear hx1 hL1 HG
    go_wp2_with fail
    go_ret
    exact ⟨by rw [HN.out]; rfl, hb1⟩
  cases h2 : (x.n == 1)
  · have HN : Hid (cl = false) := by unfold Hid; rw [HC.out, h1, h2]; rfl
    clear hx1 hL1 HG
    go_wp2_with fail
    go_ret
    exact ⟨by rw [HN.out]; rfl, hb1⟩
  by_cases h3 : 2 ≤ x.l.length
  rotate_left
  · have HN : Hid (cl = false) := by unfold Hid; rw [HC.out, decide_eq_false h3]; simp
    clear hx1 hL1 HG
    go_wp2_with fail
    go_ret
    exact ⟨by rw [HN.out]; rfl, hb1⟩
  obtain ⟨g, o, kv, rfl, _, hnode, hkid⟩ := hx1.kids.at (i := 0) (by omega)
  obtain ⟨g', o', kv2, hpe, _, hnode2, hkid2⟩ := hx1.kids.at (i := 1) (by omega)
  cases hpe
  have g0 : x.l.getD 0 zeroT = x.l[0] := by rw [List.getD_eq_getElem?_getD, List.getElem?_eq_getElem (by omega)]; rfl
  have g1 : x.l.getD 1 zeroT = x.l[1] := by rw [List.getD_eq_getElem?_getD, List.getElem?_eq_getElem (by omega)]; rfl
  obtain ⟨p5, c5, rfl⟩ := hkid.kids.slice
  obtain ⟨p6, c6, rfl⟩ := hkid2.kids.slice
  have cP := pattern_any hL1 hkid
  have cG := fun (W : World) (hb : Below w1.heap.size w1 W) => HG.out (by omega) W _ (hb1.trans (hb.mono hb1.size)) (hkid2.below hb)
  have HN : Hid (cl = (patB x.l[0] && gB x.l[1])) := by unfold Hid; rw [HC.out, h1, h2, decide_eq_true h3, g0, g1]; rfl
  have hn2 : ∀ (W : World), Below w1.heap.size w1 W → NodeAt W g (o + 1 * 5) x.l[1] (.slice p6 x.l[1].l.length c6) := fun W hb => hnode2.keep (hb.block _ hnode2.lt)
  have h4 : ∀ (W : World), Below w1.heap.size w1 W → W.cell? ⟨w.heap.size, 4, none⟩ = some (.slice (some ⟨g, o, none⟩) x.l.length c) := fun W hb => (hb.cell (p := ⟨w.heap.size, 4, none⟩) (cell_block a4)).trans a4
  have H4 := Lib.hid h4
  have HN2 := Lib.hid hn2
  obtain ⟨b0, b1, b2, b3, b4⟩ := hnode
  simp only [Nat.zero_mul, Nat.add_zero] at b0 b1 b2 b3 b4
  clear hx1 hL1 HG HC hn2 h4 g0 g1 hkid hkid2 hnode2
  have hp0 : 0 < x.l.length := by omega
  have hp1 : 1 < x.l.length := by omega
  have h3' : (2 : Int) ≤ (x.l.length : Int) := by omega
  have hp0' : (0 : Int) < (x.l.length : Int) := by omega
  have hp1' : (1 : Int) < (x.l.length : Int) := by omega
  generalize x.l[0] = y0 at *
  generalize x.l[1] = y1 at *
  generalize patB y0 = pb at cP HN
  generalize gB y1 = gb at cG HN
  cases pb
  · go_wp2_with (go_at_call 123; refine cP.mono ?_; rintro e w5 ⟨rfl, hb5⟩)
    go_ret
    exact ⟨by rw [HN.out]; rfl, hb1.trans (hb5.mono hb1.size)⟩
  · go_wp2_with (first
      | (go_at_call 123; refine cP.mono ?_; rintro e w5 ⟨rfl, hb5⟩; have d4 := H4.out _ hb5; obtain ⟨e0, e1, e2, e3, e4⟩ := HN2.out _ hb5; simp only [Nat.one_mul] at e0 e1 e2 e3 e4)
      | (go_at_call 57; refine (cG _ hb5).mono ?_; rintro e w6 ⟨rfl, hb6⟩; have hB6 := hb5.trans (hb6.mono hb5.size)))
    go_ret
    exact ⟨by rw [HN.out]; rfl, hb1.trans (hB6.mono hb1.size)⟩
end Go.Proofs.YtlhobpknflobgaaGreatDoor
namespace Go.Proofs.YtlhobpknflobgaaGreatDoor
open Go.RowKit

/-- ast.Guard answers gB for the second part of a clause, in any world behind w. -/
def GuardSays (F : Nat → Prop) (gB : Tr → Bool) (w : World) (x : Tr) : Prop := ∀ (h : 1 < x.l.length) (W : World) (tv : Value), Below w.heap.size w W → TrV F W x.l[1] tv → Calls Tryz.prog 57 #[.agg #[.int .i8 x.l[1].k, .int .i64 x.l[1].n, .string x.l[1].s, .string x.l[1].t, tv]] W fun e w' => e = .returned (.bool (gB x.l[1])) ∧ Below W.heap.size W w'
theorem GuardSays.under {F : Nat → Prop} {gB : Tr → Bool} {w w' : World} {x : Tr} (h : GuardSays F gB w x) (hb : Below w.heap.size w w') : GuardSays F gB w' x := fun hh W tv hW => h hh W tv (hb.trans (hW.mono hb.size))

set_option maxHeartbeats 2000000 in
set_option maxRecDepth 100000 in
theorem sel1_any {F : Nat → Prop} {gB : Tr → Bool} {w : World} {x : Tr} {sv : Value} (hL : Letters w) (hx : TrV F w x sv) (hG : GuardSays F gB w x) :
    Calls Tryz.prog 75 #[.agg #[.int .i8 x.k, .int .i64 x.n, .string x.s, .string x.t, sv]] w fun e w' => e = .returned (.bool (!clB gB x)) ∧ Below w.heap.size w w' := by
  obtain ⟨p, c, rfl⟩ := hx.kids.slice
  have hb := alloc_below w (.cells #[.int .i8 x.k, .int .i64 x.n, .string x.s, .string x.t, .slice p x.l.length c] 25)
  obtain ⟨a0, a1, a2, a3, a4⟩ := node_heap (heap_new w (.cells #[.int .i8 x.k, .int .i64 x.n, .string x.s, .string x.t, .slice p x.l.length c] 25))
  simp only [Nat.zero_add] at a1 a2 a3 a4
  have cC := clause_any (gB := gB) (hL.under hb) (hx.below hb) (hG.under hb)
  clear hL hx hG
  generalize clB gB x = q at cC
  go_enter Tryz.func75, Tryz.ntmps75
  go_wp2_with (go_at_call 76; refine cC.mono ?_; rintro e w6 ⟨rfl, hb6⟩)
  go_ret
  exact ⟨rfl, hb.trans (hb6.mono hb.size)⟩

set_option maxHeartbeats 2000000 in
set_option maxRecDepth 100000 in
theorem sel2_any {F : Nat → Prop} {w : World} {x : It} {sv : Value} (hL : Letters w) (hx : TrV F w x.t sv) :
    Calls Tryz.prog 78 #[.agg #[.int .i8 x.t.k, .int .i64 x.t.n, .string x.t.s, .string x.t.t, sv, .bool x.o]] w fun e w' => e = .returned (.bool (!(chkT x.t == 0))) ∧ Below w.heap.size w w' := by
  obtain ⟨p, c, rfl⟩ := hx.kids.slice
  have hb := alloc_below w (.cells #[.int .i8 x.t.k, .int .i64 x.t.n, .string x.t.s, .string x.t.t, .slice p x.t.l.length c, .bool x.o] 65)
  obtain ⟨⟨a0, a1, a2, a3, a4⟩, a5⟩ := item_heap (heap_new w (.cells #[.int .i8 x.t.k, .int .i64 x.t.n, .string x.t.s, .string x.t.t, .slice p x.t.l.length c, .bool x.o] 65))
  simp only [Nat.zero_add] at a1 a2 a3 a4
  have cC := tcheck_any (hL.under hb) (hx.below hb)
  clear hL hx
  generalize chkT x.t = q at cC
  go_enter Tryz.func78, Tryz.ntmps78
  go_wp2_with (go_at_call 79; refine cC.mono ?_; rintro e w6 ⟨rfl, hb6⟩)
  go_ret
  exact ⟨rfl, hb.trans (hb6.mono hb.size)⟩

set_option maxHeartbeats 4000000 in
set_option maxRecDepth 100000 in
theorem pickC_any {F : Nat → Prop} {P : It → Bool} {l : List It} {w : World} {v : Value} (hl : Items F w v l)
    (hP : ∀ x ∈ l, ∀ (W : World) (sv : Value), Below w.heap.size w W → TrV F W x.t sv → Calls Tryz.prog 78 #[.agg #[.int .i8 x.t.k, .int .i64 x.t.n, .string x.t.s, .string x.t.t, sv, .bool x.o]] W fun e w' => e = .returned (.bool (P x)) ∧ Below W.heap.size W w') :
    Calls Tryz.prog 77 #[v, .func (Fn.func 78) #[] #[]] w fun e w' => e = .returned (pickV (idxB P l)) ∧ Below w.heap.size w w' := by
  obtain ⟨p, c, rfl⟩ := hl.slice
  have hlen : l.length ≤ 2199023255552 := hl.len
  have HF := Lib.hid hP
  have HL := Lib.hid hl
  have HV := Lib.hid (show pickV (idxB P l) = .tuple #[.int .i64 (if 0 ≤ idxB P l then idxB P l else 0), .bool (decide (0 ≤ idxB P l))] from rfl)
  clear hP hl
  go_enter Tryz.func77, Tryz.ntmps77
  go_wp2
  go_loopw [10] (fun i wr => ∃ k : Nat, k ≤ l.length ∧ i = .int .i64 k ∧ (l.take k).all (fun x => !P x) = true ∧ Below w.heap.size w wr) (fun i _ => l.length - (intOf i).toNat)
  case atStart => exact ⟨0, Nat.zero_le _, rfl, rfl, Below.refl _ _⟩
  case round =>
    obtain ⟨k, hk, rfl, hall, hbr⟩ := hrel
    by_cases hlt : k < l.length
    · obtain ⟨g, o, kv, rfl, _, ⟨a0, a1, a2, a3, a4⟩, a5, hkid⟩ := (HL.out.under hbr).at hlt
      obtain ⟨p3, c3, rfl⟩ := hkid.kids.slice
      have hb3 := alloc_below wr (.cells #[.int .i8 l[k].t.k, .int .i64 l[k].t.n, .string l[k].t.s, .string l[k].t.t, .slice p3 l[k].t.l.length c3, .bool l[k].o] 65)
      obtain ⟨⟨b0, b1, b2, b3, b4⟩, b5⟩ := item_heap (heap_new wr (.cells #[.int .i8 l[k].t.k, .int .i64 l[k].t.n, .string l[k].t.s, .string l[k].t.t, .slice p3 l[k].t.l.length c3, .bool l[k].o] 65))
      simp only [Nat.zero_add] at b1 b2 b3 b4
      have hB3 := hbr.trans (hb3.mono hbr.size)
      have cK := HF.out l[k] (List.getElem_mem hlt) _ _ hB3 (hkid.below hb3)
      clear hkid
      cases hq : P l[k]
      · have hnext : (l.take (k + 1)).all (fun x => !P x) = true := by
          rw [List.take_succ_eq_append_getElem hlt, List.all_append, hall]; simp [hq]
        rw [hq] at cK
        have HN := Lib.hid hnext
        clear hnext hall hq
        go_wp2_with (go_at_call 78; refine cK.mono ?_; rintro e w5 ⟨rfl, hb5⟩)
        go_roundw
        case rel => exact ⟨k + 1, hlt, by go_num, HN.out, hB3.trans (hb5.mono hB3.size)⟩
        case measure => simp [intOf]; omega
      · have hfin := idx_here hlt hall hq
        rw [hq] at cK
        have HN : Hid (pickV (idxB P l) = .tuple #[.int .i64 k, .bool true]) := by unfold Hid; rw [HV.out, hfin]; simp
        clear hfin hall hq
        go_wp2_with (go_at_call 78; refine cK.mono ?_; rintro e w5 ⟨rfl, hb5⟩)
        go_ret2
        exact ⟨by rw [HN.out] <;> rfl, hB3.trans (hb5.mono hB3.size)⟩
    · rw [List.take_of_length_le (by omega)] at hall
      have HN : Hid (pickV (idxB P l) = .tuple #[.int .i64 0, .bool false]) := by unfold Hid; rw [HV.out, idx_none hall]; rfl
      clear hall
      go_wp2
      go_ret2
      exact ⟨by rw [HN.out] <;> rfl, hbr⟩

set_option maxHeartbeats 4000000 in
set_option maxRecDepth 100000 in
theorem pickN_any {F : Nat → Prop} {P : Tr → Bool} {l : List Tr} {w : World} {v : Value} (hl : Kids F w v l)
    (hP : ∀ x ∈ l, ∀ (W : World) (sv : Value), Below w.heap.size w W → TrV F W x sv → Calls Tryz.prog 75 #[.agg #[.int .i8 x.k, .int .i64 x.n, .string x.s, .string x.t, sv]] W fun e w' => e = .returned (.bool (P x)) ∧ Below W.heap.size W w') :
    Calls Tryz.prog 74 #[v, .func (Fn.func 75) #[] #[]] w fun e w' => e = .returned (pickV (idxB P l)) ∧ Below w.heap.size w w' := by
  obtain ⟨p, c, rfl⟩ := hl.slice
  have hlen : l.length ≤ 2199023255552 := hl.len
  have HF := Lib.hid hP
  have HL := Lib.hid hl
  have HV := Lib.hid (show pickV (idxB P l) = .tuple #[.int .i64 (if 0 ≤ idxB P l then idxB P l else 0), .bool (decide (0 ≤ idxB P l))] from rfl)
  clear hP hl
  go_enter Tryz.func74, Tryz.ntmps74
  go_wp2
  go_loopw [10] (fun i wr => ∃ k : Nat, k ≤ l.length ∧ i = .int .i64 k ∧ (l.take k).all (fun x => !P x) = true ∧ Below w.heap.size w wr) (fun i _ => l.length - (intOf i).toNat)
  case atStart => exact ⟨0, Nat.zero_le _, rfl, rfl, Below.refl _ _⟩
  case round =>
    obtain ⟨k, hk, rfl, hall, hbr⟩ := hrel
    by_cases hlt : k < l.length
    · obtain ⟨g, o, kv, rfl, _, ⟨a0, a1, a2, a3, a4⟩, hkid⟩ := (HL.out.under hbr).at hlt
      obtain ⟨p3, c3, rfl⟩ := hkid.kids.slice
      have hb3 := alloc_below wr (.cells #[.int .i8 l[k].k, .int .i64 l[k].n, .string l[k].s, .string l[k].t, .slice p3 l[k].l.length c3] 25)
      obtain ⟨b0, b1, b2, b3, b4⟩ := node_heap (heap_new wr (.cells #[.int .i8 l[k].k, .int .i64 l[k].n, .string l[k].s, .string l[k].t, .slice p3 l[k].l.length c3] 25))
      simp only [Nat.zero_add] at b1 b2 b3 b4
      have hB3 := hbr.trans (hb3.mono hbr.size)
      have cK := HF.out l[k] (List.getElem_mem hlt) _ _ hB3 (hkid.below hb3)
      clear hkid
      cases hq : P l[k]
      · have hnext : (l.take (k + 1)).all (fun x => !P x) = true := by
          rw [List.take_succ_eq_append_getElem hlt, List.all_append, hall]; simp [hq]
        rw [hq] at cK
        have HN := Lib.hid hnext
        clear hnext hall hq
        go_wp2_with (go_at_call 75; refine cK.mono ?_; rintro e w5 ⟨rfl, hb5⟩)
        go_roundw
        case rel => exact ⟨k + 1, hlt, by go_num, HN.out, hB3.trans (hb5.mono hB3.size)⟩
        case measure => simp [intOf]; omega
      · have hfin := idx_here hlt hall hq
        rw [hq] at cK
        have HN : Hid (pickV (idxB P l) = .tuple #[.int .i64 k, .bool true]) := by unfold Hid; rw [HV.out, hfin]; simp
        clear hfin hall hq
        go_wp2_with (go_at_call 75; refine cK.mono ?_; rintro e w5 ⟨rfl, hb5⟩)
        go_ret2
        exact ⟨by rw [HN.out] <;> rfl, hB3.trans (hb5.mono hB3.size)⟩
    · rw [List.take_of_length_le (by omega)] at hall
      have HN : Hid (pickV (idxB P l) = .tuple #[.int .i64 0, .bool false]) := by unfold Hid; rw [HV.out, idx_none hall]; rfl
      clear hall
      go_wp2
      go_ret2
      exact ⟨by rw [HN.out] <;> rfl, hbr⟩

end Go.Proofs.YtlhobpknflobgaaGreatDoor
namespace Go.Proofs.YtlhobpknflobgaaGreatDoor
open Go.RowKit

/-- What a clause tells of a term. -/
def hitC (gH : Tr → List Bd → Bool) (c : Tr) (t : Tr) (ns : List Bd) : Option (List Bd) :=
  if (allS [c.l.getD 0 zeroT] [t] ns).2.1 && gH (c.l.getD 1 zeroT) (allS [c.l.getD 0 zeroT] [t] ns).1 then some (allS [c.l.getD 0 zeroT] [t] ns).1 else none
def takeC (gH : Tr → List Bd → Bool) (t : Tr) (ns : List Bd) : List Tr → Nat → Option (Nat × List Bd)
  | [], _ => none
  | c :: r, j => match hitC gH c t ns with
    | some m => some (j, m)
    | none => takeC gH t ns r (j + 1)
def takeI (gH : Tr → List Bd → Bool) (cs : List Tr) (ns : List Bd) : List It → Nat → Option (Nat × Nat × List Bd)
  | [], _ => none
  | x :: r, i => match takeC gH x.t ns cs 0 with
    | some (j, m) => some (i, j, m)
    | none => takeI gH cs ns r (i + 1)
def badS (gB : Tr → Bool) (l : List It) (cs : List Tr) (ns : List Bd) : Bool := cs.any (fun c => !clB gB c) || (l.any (fun x => !(chkT x.t == 0)) || !mayB ns)
/-- What Select tells. -/
def selS (gB : Tr → Bool) (gH : Tr → List Bd → Bool) (l : List It) (cs : List Tr) (ns : List Bd) : Int × Int × List Bd × Bool × Int :=
  if badS gB l cs ns then (0, 0, [], false, 2) else match takeI gH cs ns l 0 with
    | some (i, j, m) => (i, j, m, true, 0)
    | none => (0, 0, ns, false, 0)
theorem takeC_drop {gH : Tr → List Bd → Bool} {t : Tr} {ns : List Bd} {cs : List Tr} {j : Nat} (h : j < cs.length) : takeC gH t ns (cs.drop j) j = match hitC gH cs[j] t ns with | some m => some (j, m) | none => takeC gH t ns (cs.drop (j + 1)) (j + 1) := by
  rw [List.drop_eq_getElem_cons h, takeC]
theorem takeI_drop {gH : Tr → List Bd → Bool} {cs : List Tr} {ns : List Bd} {l : List It} {i : Nat} (h : i < l.length) : takeI gH cs ns (l.drop i) i = match takeC gH l[i].t ns cs 0 with | some (j, m) => some (i, j, m) | none => takeI gH cs ns (l.drop (i + 1)) (i + 1) := by
  rw [List.drop_eq_getElem_cons h, takeI]

def SelPost (q : Int × Int × List Bd × Bool × Int) (w : World) (e : Ending) (w' : World) : Prop :=
  ∃ v' l' i j ok er, e = .returned (.tuple #[.int .i64 i, .int .i64 j, v', .bool ok, .int .i64 er]) ∧ Binds (fun _ => True) w' v' l' ∧ Below w.heap.size w w' ∧ q = (i, j, l', ok, er)
theorem results_tmp5 {fn : Func} {a b c d e : Tmp} (h : fn.results = #[.tmp a, .tmp b, .tmp c, .tmp d, .tmp e]) (tmps : Array Value) (P : Program) (w : World) :
    (results fn tmps).run P w = .ok (.tuple #[tmps.getD a undef, tmps.getD b undef, tmps.getD c undef, tmps.getD d undef, tmps.getD e undef]) w := by
  simp [results, h]

/-- guard.Holds answers gH for the second part of a clause, in any world behind w. -/
def HoldsSays (gH : Tr → List Bd → Bool) (w : World) (x : Tr) : Prop := ∀ (h : 1 < x.l.length) (W : World) (tv v : Value) (m : List Bd), Below w.heap.size w W → TrV (fun _ => True) W x.l[1] tv → Binds (fun _ => True) W v m → Calls Tryz.prog 18 #[.agg #[.int .i8 x.l[1].k, .int .i64 x.l[1].n, .string x.l[1].s, .string x.l[1].t, tv], v] W fun e w' => e = .returned (.bool (gH x.l[1] m)) ∧ Below W.heap.size W w'
theorem HoldsSays.under {gH : Tr → List Bd → Bool} {w w' : World} {x : Tr} (h : HoldsSays gH w x) (hb : Below w.heap.size w w') : HoldsSays gH w' x := fun hh W tv v m hW => h hh W tv v m (hb.trans (hW.mono hb.size))

structure SelHyp (gB : Tr → Bool) (gH : Tr → List Bd → Bool) (l : List It) (cs : List Tr) (ns : List Bd) (w : World) (lv cv nv : Value) : Prop where
  lt : Letters w
  hl : Items (fun _ => True) w lv l
  hc : Kids (fun _ => True) w cv cs
  hn : Binds (fun _ => True) w nv ns
  hG : ∀ c ∈ cs, GuardSays (fun _ => True) gB w c
  hH : ∀ c ∈ cs, HoldsSays gH w c

set_option maxHeartbeats 8000000 in
set_option maxRecDepth 100000 in
theorem select_any {gB : Tr → Bool} {gH : Tr → List Bd → Bool} {l : List It} {cs : List Tr} {ns : List Bd} {w : World} {lv cv nv : Value} (h : SelHyp gB gH l cs ns w lv cv nv) :
    Calls Tryz.prog 34 #[lv, cv, nv] w (SelPost (selS gB gH l cs ns) w) := by
  obtain ⟨p, c, rfl⟩ := h.hl.slice
  obtain ⟨p2, c2, rfl⟩ := h.hc.slice
  obtain ⟨p3, c3, rfl⟩ := h.hn.slice
  have hlen : l.length ≤ 2199023255552 := h.hl.len
  have hlen2 : cs.length ≤ 2199023255552 := h.hc.len
  have cN := pickN_any (P := fun c => !clB gB c) h.hc (fun x hx W sv hb hxv => sel1_any (h.lt.under hb) hxv ((h.hG x hx).under hb))
  have cI := fun (W : World) (hb : Below w.heap.size w W) => pickC_any (P := fun x : It => !(chkT x.t == 0)) (h.hl.under hb) (fun x hx W' sv hb' hxv => sel2_any (h.lt.under (hb.trans (hb'.mono hb.size))) hxv)
  have cM := fun (W : World) (hb : Below w.heap.size w W) => bmay_any (h.lt.under hb) (h.hn.under hb)
  have e1 := idx_any (fun c => !clB gB c) cs
  have e2 := idx_any (fun x : It => !(chkT x.t == 0)) l
  unfold pickV at cN cI
  rw [e1] at cN
  rw [e2] at cI
  clear e1 e2
  generalize (if 0 ≤ idxB (fun c => !clB gB c) cs then idxB (fun c => !clB gB c) cs else 0) = z1 at cN
  generalize (if 0 ≤ idxB (fun x : It => !(chkT x.t == 0)) l then idxB (fun x : It => !(chkT x.t == 0)) l else 0) = z2 at cI
  have H := Lib.hid h
  clear h
  have HB : Hid (badS gB l cs ns = (cs.any (fun c => !clB gB c) || (l.any (fun x => !(chkT x.t == 0)) || !mayB ns))) := Lib.hid rfl
  generalize hq1 : cs.any (fun c => !clB gB c) = q1 at cN HB
  generalize hq2 : l.any (fun x => !(chkT x.t == 0)) = q2 at cI HB
  generalize mayB ns = q3 at cM HB
  have HQ1 := Lib.hid hq1
  clear hq1 hq2
  cases q1
  case' true =>
    have HN : Hid (selS gB gH l cs ns = (0, 0, [], false, 2)) := by unfold Hid selS; rw [HB.out]; rfl
    go_enter Tryz.func34, Tryz.ntmps34
    go_wp2
    go_step3
    go_wp2_with (first
      | (go_at_call 74; refine cN.mono ?_; rintro e w5 ⟨rfl, hb5⟩)
      | (go_at_call 77; refine (cI _ hb5).mono ?_; rintro e w6 ⟨rfl, hb6⟩; have hB6 := hb5.trans (hb6.mono hb5.size)))
    try rw [Exit.noGoto_ret]
    refine bodyPost_ret (results_tmp5 Tryz.results34 _ _ _) rfl ?_
    exact ⟨_, [], 0, 0, false, 2, rfl, Binds.nil _ _, hB6, HN.out⟩
  cases q2
  case' true =>
    have HN : Hid (selS gB gH l cs ns = (0, 0, [], false, 2)) := by unfold Hid selS; rw [HB.out]; rfl
    go_enter Tryz.func34, Tryz.ntmps34
    go_wp2
    go_step3
    go_wp2_with (first
      | (go_at_call 74; refine cN.mono ?_; rintro e w5 ⟨rfl, hb5⟩)
      | (go_at_call 77; refine (cI _ hb5).mono ?_; rintro e w6 ⟨rfl, hb6⟩; have hB6 := hb5.trans (hb6.mono hb5.size)))
    try rw [Exit.noGoto_ret]
    refine bodyPost_ret (results_tmp5 Tryz.results34 _ _ _) rfl ?_
    exact ⟨_, [], 0, 0, false, 2, rfl, Binds.nil _ _, hB6, HN.out⟩
  cases q3
  case' false =>
    have HN : Hid (selS gB gH l cs ns = (0, 0, [], false, 2)) := by unfold Hid selS; rw [HB.out]; rfl
    go_enter Tryz.func34, Tryz.ntmps34
    go_wp2
    go_step3
    go_wp2_with (first
      | (go_at_call 74; refine cN.mono ?_; rintro e w5 ⟨rfl, hb5⟩)
      | (go_at_call 77; refine (cI _ hb5).mono ?_; rintro e w6 ⟨rfl, hb6⟩; have hB6 := hb5.trans (hb6.mono hb5.size))
      | (go_at_call 80; refine (cM _ hB6).mono ?_; rintro e w7 ⟨rfl, hb7⟩; have hB7 := hB6.trans (hb7.mono hB6.size)))
    try rw [Exit.noGoto_ret]
    refine bodyPost_ret (results_tmp5 Tryz.results34 _ _ _) rfl ?_
    exact ⟨_, [], 0, 0, false, 2, rfl, Binds.nil _ _, hB7, HN.out⟩
  have HN : Hid (selS gB gH l cs ns = match takeI gH cs ns l 0 with
    | some (i, j, m) => (i, j, m, true, 0)
    | none => (0, 0, ns, false, 0)) := by unfold Hid selS; rw [HB.out]; rfl
  go_enter Tryz.func34, Tryz.ntmps34
  go_wp2
  go_step3
  go_wp2_with (first
    | (go_at_call 74; refine cN.mono ?_; rintro e w5 ⟨rfl, hb5⟩)
    | (go_at_call 77; refine (cI _ hb5).mono ?_; rintro e w6 ⟨rfl, hb6⟩; have hB6 := hb5.trans (hb6.mono hb5.size))
    | (go_at_call 80; refine (cM _ hB6).mono ?_; rintro e w7 ⟨rfl, hb7⟩; have hB7 := hB6.trans (hb7.mono hB6.size)))
  clear cN cI cM
  go_step3
  go_wp2
  go_loopw [6, 7, 8, 9, 44] (fun s6 s7 s8 s9 i wr => ∃ k : Nat, k ≤ l.length ∧ i = .int .i64 k ∧ s6 = .int .i64 0 ∧ s7 = .int .i64 0 ∧ s8 = .slice p3 ns.length c3 ∧ s9 = .bool false ∧ takeI gH cs ns (l.drop k) k = takeI gH cs ns l 0 ∧ Below w.heap.size w wr) (fun _ _ _ _ i _ => l.length - (intOf i).toNat)
  case atStart => exact ⟨0, Nat.zero_le _, rfl, rfl, rfl, rfl, rfl, rfl, hB7⟩
  case round =>
    obtain ⟨k, hk, rfl, rfl, rfl, rfl, rfl, hrest, hbr⟩ := hrel
    by_cases hlt : k < l.length
    · obtain ⟨g, o, kv, rfl, _, ⟨a0, a1, a2, a3, a4⟩, a5, hkid⟩ := (H.out.hl.under hbr).at hlt
      obtain ⟨p4, c4, rfl⟩ := hkid.kids.slice
      rw [takeI_drop hlt] at hrest
      have HREST := Lib.hid hrest
      have hb3 := alloc_below wr (.cells #[.int .i8 l[k].t.k, .int .i64 l[k].t.n, .string l[k].t.s, .string l[k].t.t, .slice p4 l[k].t.l.length c4, .bool l[k].o] 65)
      have hi3 := item_heap (heap_new wr (.cells #[.int .i8 l[k].t.k, .int .i64 l[k].t.n, .string l[k].t.s, .string l[k].t.t, .slice p4 l[k].t.l.length c4, .bool l[k].o] 65))
      have hkid3 := hkid.below hb3
      have hB3 := hbr.trans (hb3.mono hbr.size)
      clear hrest hkid
      go_upto_region 9 with fail
      generalize wr.alloc (.cells #[.int .i8 l[k].t.k, .int .i64 l[k].t.n, .string l[k].t.s, .string l[k].t.t, .slice p4 l[k].t.l.length c4, .bool l[k].o] 65) = w3 at hb3 hi3 hkid3 hB3 ⊢
      generalize hxt : l[k].t = xt at hi3 hkid3 HREST
      generalize l[k].o = xo at *
      generalize wr.heap.size = bi at *
      clear a0 a1 a2 a3 a4 a5 hxt hb3 hbr
      obtain ⟨hni3, _⟩ := hi3
      go_wp2
      rename World => W3
      go_loopw [6, 7, 8, 9, 51] (fun s6 s7 s8 s9 i wy => ∃ j : Nat, j ≤ cs.length ∧ i = .int .i64 j ∧ s6 = .int .i64 0 ∧ s7 = .int .i64 0 ∧ s8 = .slice p3 ns.length c3 ∧ s9 = .bool false ∧ takeC gH xt ns (cs.drop j) j = takeC gH xt ns cs 0 ∧ Below W3.heap.size W3 wy) (fun _ _ _ _ i _ => cs.length - (intOf i).toNat)
      case atStart => exact ⟨0, Nat.zero_le _, rfl, rfl, rfl, rfl, rfl, rfl, Below.refl _ _⟩
      case round =>
        obtain ⟨j, hj, rfl, rfl, rfl, rfl, rfl, hrest2, hby⟩ := hrel
        have hBy := hB3.trans (hby.mono hB3.size)
        by_cases hlj : j < cs.length
        · obtain ⟨g2, o2, kv2, rfl, _, ⟨d0, d1, d2, d3, d4⟩, hck⟩ := (H.out.hc.under hBy).at hlj
          have hcl : clB gB cs[j] = true := by
            have h1 := List.any_eq_false.1 HQ1.out cs[j] (List.getElem_mem hlj)
            simpa using h1
          unfold clB at hcl
          simp only [Bool.and_eq_true, decide_eq_true_eq] at hcl
          obtain ⟨⟨_, hc2⟩, _⟩ := hcl
          have cH := fun (W : World) (hb : Below w.heap.size w W) => (H.out.hH cs[j] (List.getElem_mem hlj)).under hb
          rw [takeC_drop hlj] at hrest2
          obtain ⟨p5, c5, rfl⟩ := hck.kids.slice
          have hb4 := alloc_below wr (.cells #[.int .i8 cs[j].k, .int .i64 cs[j].n, .string cs[j].s, .string cs[j].t, .slice p5 cs[j].l.length c5] 25)
          have hn4 := node_heap (heap_new wr (.cells #[.int .i8 cs[j].k, .int .i64 cs[j].n, .string cs[j].s, .string cs[j].t, .slice p5 cs[j].l.length c5] 25))
          have hck4 := hck.below hb4
          have hB4 := hBy.trans (hb4.mono hBy.size)
          have hB34 := hby.trans (hb4.mono hby.size)
          have hni4 := hni3.keep ((hby.trans (hb4.mono hby.size)).block _ hni3.lt)
          have hki4 := hkid3.below (hby.trans (hb4.mono hby.size))
          clear hck
          go_upto_region 12 with fail
          generalize wr.alloc (.cells #[.int .i8 cs[j].k, .int .i64 cs[j].n, .string cs[j].s, .string cs[j].t, .slice p5 cs[j].l.length c5] 25) = w4 at hb4 hn4 hck4 hB4 hB34 hni4 hki4 ⊢
          generalize wr.heap.size = bn at *
          generalize cs[j] = cj at *
          clear d0 d1 d2 d3 d4
          obtain ⟨g5, o5, kv5, rfl, _, hnode5, hkid5⟩ := hck4.kids.at (i := 0) (by omega)
          obtain ⟨g6, o6, kv6, hpe, _, hnode6, hkid6⟩ := hck4.kids.at (i := 1) (by omega)
          cases hpe
          have g0 : cj.l.getD 0 zeroT = cj.l[0] := by rw [List.getD_eq_getElem?_getD, List.getElem?_eq_getElem (by omega)]; rfl
          have g1 : cj.l.getD 1 zeroT = cj.l[1] := by rw [List.getD_eq_getElem?_getD, List.getElem?_eq_getElem (by omega)]; rfl
          have hclen : cj.l.length ≤ 2199023255552 := hck4.kids.len
          have HIT : Hid (∀ l5 ok5 er5, allS [cj.l[0]] [xt] ns = (l5, ok5, er5) → hitC gH cj xt ns = if ok5 && gH cj.l[1] l5 then some l5 else none) := by
            intro l5 ok5 er5 hq
            unfold hitC
            rw [g0, g1, hq]
          obtain ⟨p6, c6, rfl⟩ := hkid5.kids.slice
          obtain ⟨p7, c7, rfl⟩ := hkid6.kids.slice
          have hbd : Below w4.heap.size w4 w4.drew := below_drewN (Below.refl _ _) 1
          have hB4d := hB4.trans (hbd.mono hB4.size)
          have cMt := mmatch_any (F := fun _ => True) (p := cj.l[0]) (x := xt) (l := ns) (w := w4.drew) ⟨H.out.lt.under hB4d, fun _ _ => trivial, hkid5.below hbd, hki4.below hbd, H.out.hn.under hB4d⟩
          have hcl0 : 0 < cj.l.length := by omega
          have hcl1 : 1 < cj.l.length := by omega
          have hcn : ¬ cj.l = [] := by intro e; rw [e] at hcl0; exact absurd hcl0 (by decide)
          have hcl0i : (0 : Int) < (cj.l.length : Int) := by omega
          have hcl1i : (1 : Int) < (cj.l.length : Int) := by omega
          have HN4 := Lib.hid hn4
          have HN6 := Lib.hid hnode6
          have HK6 := Lib.hid hkid6
          have cH := fun (W : World) (v : Value) (m : List Bd) (hb : Below w4.heap.size w4 W) (hm : Binds (fun _ => True) W v m) => cH w4 hB4 hcl1 W (.slice p7 cj.l[1].l.length c7) v m hb (hkid6.below hb) hm
          have HB4 := Lib.hid hB4
          have HR2 := Lib.hid hrest2
          obtain ⟨a0, a1, a2, a3, a4⟩ := hn4
          obtain ⟨b0, b1, b2, b3, b4⟩ := hnode5
          obtain ⟨f0, f1, f2, f3, f4⟩ := hni4
          simp only [Nat.zero_add] at a1 a2 a3 a4 f1 f2 f3 f4
          simp only [Nat.zero_mul, Nat.add_zero] at b0 b1 b2 b3 b4
          clear hrest2 hck4 hkid5 hkid6 hnode6 g0 g1 hki4
          generalize cj.l[0] = y0 at *
          generalize cj.l[1] = y1 at *
          have hS : ∀ W : World, Below w4.heap.size w4 W → W.cell? ⟨bn, 4, none⟩ = some (.slice (some ⟨g5, o5, none⟩) cj.l.length c5) ∧ W.cell? ⟨g5, o5, none⟩ = some (.int .i8 y0.k) ∧ W.cell? ⟨g5, o5 + 1, none⟩ = some (.int .i64 y0.n) ∧ W.cell? ⟨g5, o5 + 2, none⟩ = some (.string y0.s) ∧ W.cell? ⟨g5, o5 + 3, none⟩ = some (.string y0.t) ∧ W.cell? ⟨g5, o5 + 4, none⟩ = some (.slice p6 y0.l.length c6) ∧ W.cell? ⟨bi, 0, none⟩ = some (.int .i8 xt.k) ∧ W.cell? ⟨bi, 1, none⟩ = some (.int .i64 xt.n) ∧ W.cell? ⟨bi, 2, none⟩ = some (.string xt.s) ∧ W.cell? ⟨bi, 3, none⟩ = some (.string xt.t) ∧ W.cell? ⟨bi, 4, none⟩ = some (.slice p4 xt.l.length c4) := by
            intro W hb
            have f : ∀ g o u, w4.cell? ⟨g, o, none⟩ = some u → W.cell? ⟨g, o, none⟩ = some u := fun g o u h => (hb.cell (p := ⟨g, o, none⟩) (cell_block h)).trans h
            exact ⟨f _ _ _ a4, f _ _ _ b0, f _ _ _ b1, f _ _ _ b2, f _ _ _ b3, f _ _ _ b4, f _ _ _ f0, f _ _ _ f1, f _ _ _ f2, f _ _ _ f3, f _ _ _ f4⟩
          have hS0 := hS w4 (Below.refl _ _)
          clear a0 a1 a2 a3 a4 b0 b1 b2 b3 b4 f0 f1 f2 f3 f4
          go_region_held3 (fun W => W.cell? ⟨bn, 4, none⟩ = some (.slice (some ⟨g5, o5, none⟩) cj.l.length c5) ∧ W.cell? ⟨g5, o5, none⟩ = some (.int .i8 y0.k) ∧ W.cell? ⟨g5, o5 + 1, none⟩ = some (.int .i64 y0.n) ∧ W.cell? ⟨g5, o5 + 2, none⟩ = some (.string y0.s) ∧ W.cell? ⟨g5, o5 + 3, none⟩ = some (.string y0.t) ∧ W.cell? ⟨g5, o5 + 4, none⟩ = some (.slice p6 y0.l.length c6) ∧ W.cell? ⟨bi, 0, none⟩ = some (.int .i8 xt.k) ∧ W.cell? ⟨bi, 1, none⟩ = some (.int .i64 xt.n) ∧ W.cell? ⟨bi, 2, none⟩ = some (.string xt.s) ∧ W.cell? ⟨bi, 3, none⟩ = some (.string xt.t) ∧ W.cell? ⟨bi, 4, none⟩ = some (.slice p4 xt.l.length c4)) (first | exact hS0 | exact hS1) (first
            | (go_at_call 81; refine cMt.mono ?_; rintro e w9 ⟨v9, l9, ok9, er9, rfl, hl9, hb9, hq9⟩
               have hB9 := hbd.trans (hb9.mono hbd.size)
               have hS1 := hS w9 hB9
               obtain ⟨p9, c9, rfl⟩ := hl9.slice))
          have hn9 := HN6.out.keep (hB9.block _ HN6.out.lt)
          obtain ⟨e0, e1, e2, e3, e4⟩ := hn9
          simp only [Nat.one_mul] at e0 e1 e2 e3 e4
          have hbn := hS1.1
          have hc9 : (l9.length : Int) ≤ (c9 : Int) := by
            obtain ⟨p', c', he, h1, _⟩ := hl9
            cases he
            omega
          have HL9 := Lib.hid hl9
          have cH9 := cH w9 _ l9 hB9 hl9
          have hit := HIT.out l9 ok9 er9 hq9
          have HB39 := Lib.hid (hB34.trans (hB9.mono hB34.size))
          have HBW9 := Lib.hid (HB4.out.trans (hB9.mono HB4.out.size))
          have hlen9 : l9.length ≤ 2199023255552 := hl9.len
          clear hS hS0 hS1 hl9 cH cMt HIT hq9
          cases ok9
          case' false =>
            have hnx : takeC gH xt ns (cs.drop (j + 1)) (j + 1) = takeC gH xt ns cs 0 := by rw [← HR2.out, hit]; rfl
            have HNX := Lib.hid hnx
            clear hnx hit cH9
            go_wp2_with fail
            go_roundw
            case rel => exact ⟨j + 1, hlj, by go_num, rfl, rfl, rfl, rfl, HNX.out, HB39.out⟩
            case measure => simp [intOf]; omega
          generalize gH y1 l9 = qh at cH9 hit
          cases qh
          case' false =>
            have hnx : takeC gH xt ns (cs.drop (j + 1)) (j + 1) = takeC gH xt ns cs 0 := by rw [← HR2.out, hit]; rfl
            have HNX := Lib.hid hnx
            clear hnx hit
            go_wp2_with (go_at_call 18; refine cH9.mono ?_; rintro e w10 ⟨rfl, hb10⟩)
            go_roundw
            case rel => exact ⟨j + 1, hlj, by go_num, rfl, rfl, rfl, rfl, HNX.out, HB39.out.trans (hb10.mono HB39.out.size)⟩
            case measure => simp [intOf]; omega
          have hfin : selS gB gH l cs ns = ((k : Int), (j : Int), l9, true, 0) := by
            have h1 : takeC gH xt ns cs 0 = some (j, l9) := by rw [← HR2.out, hit]; rfl
            rw [HN.out, ← HREST.out, h1]
          have HFIN := Lib.hid hfin
          clear hfin hit
          go_upto_region 15 with (go_at_call 18; refine cH9.mono ?_; rintro e w10 ⟨rfl, hb10⟩)
          go_quiet (fail)
          go_wp2_with fail
          try rw [Exit.noGoto_ret]
          refine bodyPost_ret (results_tmp5 Tryz.results34 _ _ _) rfl ?_
          have hB10 := HBW9.out.trans (hb10.mono HBW9.out.size)
          have hl10 : Binds (fun _ => True) w10 (.slice p9 l9.length l9.length) l9 := by
            obtain ⟨p', c', he, h1, h2, h3, h4⟩ := HL9.out.under hb10
            cases he
            exact ⟨_, _, rfl, Nat.le_refl _, h2, h3, fun e => by have := h4 e; omega⟩
          exact ⟨_, l9, _, _, true, 0, rfl, hl10.under (below_drewN (Below.refl _ _) _), below_drewN hB10 _, HFIN.out⟩
        · rw [List.drop_eq_nil_of_le (by omega), takeC] at hrest2
          have hR := HREST.out
          rw [← hrest2] at hR
          have HR := Lib.hid hR
          clear hR hrest2 HREST
          go_wp2
          go_roundw
          case rel => exact ⟨k + 1, hlt, by go_num, rfl, rfl, rfl, rfl, HR.out, hBy⟩
          case measure => simp [intOf]; omega
    · rw [List.drop_eq_nil_of_le (by omega), takeI] at hrest
      have HN2 : Hid (selS gB gH l cs ns = (0, 0, ns, false, 0)) := by unfold Hid; rw [HN.out, ← hrest]
      clear hrest
      go_wp2
      refine bodyPost_ret (results_tmp5 Tryz.results34 _ _ _) rfl ?_
      exact ⟨_, ns, 0, 0, false, 0, rfl, H.out.hn.under hbr, hbr, HN2.out⟩
end Go.Proofs.YtlhobpknflobgaaGreatDoor
namespace Go.Proofs.YtlhobpknflobgaaGreatDoor
open Go.RowKit

/-- An atom. -/
def aT (s : ByteArray) : Tr := .mk 1 0 s ⟨#[]⟩ []
set_option maxHeartbeats 1000000 in
set_option maxRecDepth 100000 in
theorem item_any (w : World) (s : ByteArray) : Calls Tryz.prog 72 #[.string s] w fun e w' => e = .returned (.agg #[.int .i8 1, .int .i64 0, .string s, .string ⟨#[]⟩, .slice none 0 0, .bool false]) ∧ Below w.heap.size w w' := by
  have hn : (w.alloc (.cells (cells6 zeroI (.slice none 0 0)) 65)).heap[w.heap.size]? = some (.cells (cells6 zeroI (.slice none 0 0)) 65 (0, 0)) := heap_new w _
  have hb := alloc_below w (.cells (cells6 zeroI (.slice none 0 0)) 65)
  go_enter Tryz.func72, Tryz.ntmps72
  go_upto_region 1 with fail
  change Code.wp _ _ _ _ (w.alloc (.cells (cells6 zeroI (.slice none 0 0)) 65))
  generalize w.alloc (.cells (cells6 zeroI (.slice none 0 0)) 65) = w1 at hn hb ⊢
  have hlt := (six_facts hn).1
  go_wp2_with (first
    | (go_at_call 70; refine (ratom_any _ s).mono ?_; rintro e w5 ⟨rfl, hb5⟩
       have hn5 := (hb5.block _ hlt).trans hn
       have hr := setRow_heap' (cells := cells6 ⟨aT s, false⟩ (.slice none 0 0)) hn5
       have hB := below_setRow (cells := cells6 ⟨aT s, false⟩ (.slice none 0 0)) (hb.trans (hb5.mono hb.size)) (Nat.le_refl _))
    | (refine wpList_store_row rfl 65 _ _ rfl w.heap.size (cells6 ⟨aT s, false⟩ (.slice none 0 0)) (by kernel_rfl) (by kernel_rfl) 65 (cells6 zeroI (.slice none 0 0)) hn5 (size69 _ _) (by kernel_rfl) (by kernel_rfl) ?_))
  refine bodyPost_ret (v := .agg (cells6 ⟨aT s, false⟩ (.slice none 0 0))) (results_cell_row Tryz.results72 _ _ w.heap.size 65 (cells6 ⟨aT s, false⟩ (.slice none 0 0)) (0, 0) _ rfl hr Tryz.underlying65 rfl (size69 _ _)) rfl ⟨rfl, hB⟩

def nilN : Tr := .mk 8 0 ⟨#[]⟩ ⟨#[]⟩ []
/-- A clause of one pattern, no tests. -/
def clT (p : Tr) : Tr := .mk 3 1 ⟨#[]⟩ ⟨#[]⟩ [p, eG, nilN]
/-- Three trees one behind the other, as cells. -/
def cells15 (p : Tr) (pv : Value) : Array Value := #[.int .i8 p.k, .int .i64 p.n, .string p.s, .string p.t, pv, .int .i8 4, .int .i64 0, .string ⟨#[]⟩, .string ⟨#[]⟩, .slice none 0 0, .int .i8 8, .int .i64 0, .string ⟨#[]⟩, .string ⟨#[]⟩, .slice none 0 0]
theorem kids_three {F : Nat → Prop} {w : World} {g : Nat} {x y z : Tr} {sv tv uv : Value} (hx : NodeAt w g 0 x sv) (hy : NodeAt w g 5 y tv) (hz : NodeAt w g 10 z uv) (hxv : TrV F w x sv) (hyv : TrV F w y tv) (hzv : TrV F w z uv) (hg : F g) : Kids F w (.slice (some ⟨g, 0, none⟩) 3 3) [x, y, z] :=
  .mk _ 3 [x, y, z] (fun i => if i = 0 then sv else if i = 1 then tv else uv) (Nat.le_refl _) (by simp [BL])
    (fun i hi => match i, hi with | 0, _ => hxv.wf | 1, _ => hyv.wf | 2, _ => hzv.wf)
    (fun i hi => match i, hi with | 0, _ => ⟨g, 0, rfl, hg, hx⟩ | 1, _ => ⟨g, 0, rfl, hg, hy⟩ | 2, _ => ⟨g, 0, rfl, hg, hz⟩)
    (fun i hi => match i, hi with | 0, _ => hxv.kids | 1, _ => hyv.kids | 2, _ => hzv.kids)
theorem clT_lies {w : World} {g : Nat} {p : Tr} {pv : Value} (h : w.heap[g]? = some (.cells (cells15 p pv) 25 (0, 0))) (hp : TrV (fun _ => True) w p pv) : TrV (fun _ => True) w (clT p) (.slice (some ⟨g, 0, none⟩) 3 3) := by
  have hc : ∀ o u, (cells15 p pv)[o]? = some u → w.cell? ⟨g, o, none⟩ = some u := fun o u hu => (arr_cell h).trans hu
  exact ⟨wf_small _ _ _ _ _ (by decide) (by decide) (by decide) (by decide), kids_three (F := fun _ => True) (x := p) (y := eG) (z := nilN) ⟨hc 0 _ rfl, hc 1 _ rfl, hc 2 _ rfl, hc 3 _ rfl, hc 4 _ rfl⟩ ⟨hc 5 _ rfl, hc 6 _ rfl, hc 7 _ rfl, hc 8 _ rfl, hc 9 _ rfl⟩ ⟨hc 10 _ rfl, hc 11 _ rfl, hc 12 _ rfl, hc 13 _ rfl, hc 14 _ rfl⟩ hp
    ⟨wf_small _ _ _ _ _ (by decide) (by decide) (by decide) (by decide), Kids.nil _ _⟩ ⟨wf_small _ _ _ _ _ (by decide) (by decide) (by decide) (by decide), Kids.nil _ _⟩ trivial⟩

set_option maxHeartbeats 2000000 in
set_option maxRecDepth 100000 in
theorem takes_any {F : Nat → Prop} {w : World} {p : Tr} {pv : Value} (hp : TrV F w p pv) : Calls Tryz.prog 73 #[.agg #[.int .i8 p.k, .int .i64 p.n, .string p.s, .string p.t, pv]] w fun e w' => ∃ sv, e = .returned (.agg #[.int .i8 3, .int .i64 1, .string ⟨#[]⟩, .string ⟨#[]⟩, sv]) ∧ TrV (fun _ => True) w' (clT p) sv ∧ Below w.heap.size w w' := by
  obtain ⟨p1, c1, rfl⟩ := hp.kids.slice
  obtain ⟨n1, n2, hb1, hz1⟩ := two_new w (.cells #[.int .i8 p.k, .int .i64 p.n, .string p.s, .string p.t, .slice p1 p.l.length c1] 25) (.cells (cells5 zeroT (.slice none 0 0)) 25)
  have hp0 : TrV (fun g => g < w.heap.size) w p (.slice p1 p.l.length c1) := ⟨hp.wf, hp.kids.mono fun _ _ h => h⟩
  obtain ⟨a0, a1, a2, a3, a4⟩ := node_heap n1
  simp only [Nat.zero_add] at a1 a2 a3 a4
  go_enter Tryz.func73, Tryz.ntmps73
  go_upto_region 1 with fail
  change Code.wp _ _ _ _ ((w.alloc (.cells #[.int .i8 p.k, .int .i64 p.n, .string p.s, .string p.t, .slice p1 p.l.length c1] 25)).alloc (.cells (cells5 zeroT (.slice none 0 0)) 25))
  generalize (w.alloc (.cells #[.int .i8 p.k, .int .i64 p.n, .string p.s, .string p.t, .slice p1 p.l.length c1] 25)).alloc (.cells (cells5 zeroT (.slice none 0 0)) 25) = w1 at n1 n2 hb1 hz1 a0 a1 a2 a3 a4 ⊢
  have hb7 := alloc_below w1 (.cells (cells15 p (.slice p1 p.l.length c1)) 25)
  have hg7 := heap_new w1 (.cells (cells15 p (.slice p1 p.l.length c1)) 25)
  have hn7 := (hb7.block (w.heap.size + 1) (by omega)).trans n2
  have hr := setRow_heap' (cells := cells5 (clT p) (.slice (some ⟨w1.heap.size, 0, none⟩) 3 3)) hn7
  have hB := below_setRow (cells := cells5 (clT p) (.slice (some ⟨w1.heap.size, 0, none⟩) 3 3)) (hb1.trans (hb7.mono hb1.size)) (Nat.le_succ _)
  have hg8 := (setRow_other (X := w1.alloc (.cells (cells15 p (.slice p1 p.l.length c1)) 25)) (cells := cells5 (clT p) (.slice (some ⟨w1.heap.size, 0, none⟩) 3 3)) (show w1.heap.size ≠ w.heap.size + 1 by omega)).trans hg7
  have hp8 := hp0.below hB
  have hres := clT_lies hg8 ⟨hp8.wf, hp8.kids.mono fun _ _ _ => trivial⟩
  have HRES := Lib.hid hres
  have HR := Lib.hid hr
  clear n1 n2 hz1 hb7 hg7 hr hg8 hp8 hp0 hres hp
  go_wp2_with (refine wpList_store_row rfl 25 _ _ rfl (w.heap.size + 1) (cells5 (clT p) (.slice (some ⟨w1.heap.size, 0, none⟩) 3 3)) (by kernel_rfl) (by kernel_rfl) 25 (cells5 zeroT (.slice none 0 0)) hn7 (size25 _ _) (by kernel_rfl) (by kernel_rfl) ?_)
  exact bodyPost_ret (v := .agg (cells5 (clT p) (.slice (some ⟨w1.heap.size, 0, none⟩) 3 3))) (results_cell_row Tryz.results73 _ _ (w.heap.size + 1) 25 (cells5 (clT p) (.slice (some ⟨w1.heap.size, 0, none⟩) 3 3)) (0, 0) _ rfl HR.out Tryz.underlying25 rfl (size25 _ _)) rfl ⟨_, rfl, HRES.out, hB⟩
end Go.Proofs.YtlhobpknflobgaaGreatDoor
namespace Go.Proofs.YtlhobpknflobgaaGreatDoor
open Go.RowKit

def sA : ByteArray := ⟨#[97]⟩
def sB : ByteArray := ⟨#[98]⟩
def sC : ByteArray := ⟨#[99]⟩
def pairN : Tr := .mk 10 0 ⟨#[]⟩ ⟨#[]⟩ [.mk 7 0 sA ⟨#[]⟩ [], .mk 5 0 ⟨#[88]⟩ ⟨#[]⟩ []]
def bN : Tr := .mk 7 0 sB ⟨#[]⟩ []
def thirdT : Tr := .mk 5 0 ⟨#[]⟩ ⟨#[]⟩ [aT sA, .mk 0 1 ⟨#[]⟩ ⟨#[]⟩ []]
theorem miss {p x : Tr} (hp : patB p = true) (hc : chkT x = 0) (hg : (p.go x []).isNone = true) : allS [p] [x] [] = ([], false, 0) := by
  have hg : p.go x [] = none := by simpa using hg
  rw [allS_one]
  unfold matchS
  rw [hp, hc]
  unfold goR
  rw [hg]
  rfl
theorem hit0 {p x : Tr} (hp : patB p = true) (hc : chkT x = 0) (hg : (p.go x []).map List.length = some 0) : allS [p] [x] [] = ([], true, 0) := by
  have hg : p.go x [] = some [] := by
    cases h : p.go x [] with
    | none => rw [h] at hg; cases hg
    | some m =>
      rw [h] at hg
      simp at hg
      rw [hg]
  rw [allS_one]
  unfold matchS
  rw [hp, hc]
  unfold goR
  rw [hg]
  rfl
/-- What the guards of the two clauses hold. -/
def gB0 (_ : Tr) : Bool := true
def gH0 (_ : Tr) (m : List Bd) : Bool := gmayB m
theorem wake17 : selS gB0 gH0 [⟨aT sC, false⟩, ⟨aT sB, false⟩, ⟨thirdT, false⟩] [clT pairN, clT bN] [] = (1, 1, [], true, 0) := by
  have h1 : allS [pairN] [aT sC] [] = ([], false, 0) := miss (by decide +kernel) (by decide +kernel) (by decide +kernel)
  have h2 : allS [bN] [aT sC] [] = ([], false, 0) := miss (by decide +kernel) (by decide +kernel) (by decide +kernel)
  have h3 : allS [pairN] [aT sB] [] = ([], false, 0) := miss (by decide +kernel) (by decide +kernel) (by decide +kernel)
  have h4 : allS [bN] [aT sB] [] = ([], true, 0) := hit0 (by decide +kernel) (by decide +kernel) (by decide +kernel)
  have k1 : hitC gH0 (clT pairN) (aT sC) [] = none := by
    unfold hitC
    rw [show (clT pairN).l.getD 0 zeroT = pairN from rfl, h1]; rfl
  have k2 : hitC gH0 (clT bN) (aT sC) [] = none := by
    unfold hitC
    rw [show (clT bN).l.getD 0 zeroT = bN from rfl, h2]; rfl
  have k3 : hitC gH0 (clT pairN) (aT sB) [] = none := by
    unfold hitC
    rw [show (clT pairN).l.getD 0 zeroT = pairN from rfl, h3]; rfl
  have k4 : hitC gH0 (clT bN) (aT sB) [] = some [] := by
    unfold hitC
    rw [show (clT bN).l.getD 0 zeroT = bN from rfl, h4]; rfl
  have hb : badS gB0 [⟨aT sC, false⟩, ⟨aT sB, false⟩, ⟨thirdT, false⟩] [clT pairN, clT bN] [] = false := by
    unfold badS
    have c1 : clB gB0 (clT pairN) = true := by decide +kernel
    have c2 : clB gB0 (clT bN) = true := by decide +kernel
    have d1 : chkT (aT sC) = 0 := by decide +kernel
    have d2 : chkT (aT sB) = 0 := by decide +kernel
    have d3 : chkT thirdT = 0 := by decide +kernel
    simp [c1, c2, d1, d2, d3, mayB]
  unfold selS
  rw [hb]
  have t1 : takeC gH0 (aT sC) [] [clT pairN, clT bN] 0 = none := by
    rw [takeC, k1]; show takeC gH0 (aT sC) [] [clT bN] 1 = none
    rw [takeC, k2]; rfl
  have t2 : takeC gH0 (aT sB) [] [clT pairN, clT bN] 0 = some (1, []) := by
    rw [takeC, k3]; show takeC gH0 (aT sB) [] [clT bN] 1 = some (1, [])
    rw [takeC, k4]
  have t3 : takeI gH0 [clT pairN, clT bN] [] [⟨aT sC, false⟩, ⟨aT sB, false⟩, ⟨thirdT, false⟩] 0 = some (1, 1, []) := by
    rw [takeI, t1]; show takeI gH0 [clT pairN, clT bN] [] [⟨aT sB, false⟩, ⟨thirdT, false⟩] 1 = some (1, 1, [])
    rw [takeI, t2]
  rw [t3]
  rfl

/-- The guards' hypotheses of the two clauses. -/
theorem guard0 {w : World} (p : Tr) : GuardSays (fun _ => True) gB0 w (clT p) := fun _ _ _ _ ht => guardEmpty_any ht
theorem holds0 {w : World} (hL : Letters w) (p : Tr) : HoldsSays gH0 w (clT p) := fun _ _ _ _ _ hb ht hm => holdsE_any (hL.under hb) ht hm
end Go.Proofs.YtlhobpknflobgaaGreatDoor
namespace Go.Proofs.YtlhobpknflobgaaGreatDoor
open Go.RowKit

theorem carry {w w' : World} {b : Nat} {o : Obj} (h : w.heap[b]? = some o) (hb : Below w.heap.size w w') : w'.heap[b]? = some o := (hb.block b (Array.getElem?_eq_some_iff.1 h).1).trans h
/-- The three items, as cells. -/
def c18 (sv : Value) : Array Value := #[.int .i8 1, .int .i64 0, .string ⟨#[99]⟩, .string ⟨#[]⟩, .slice none 0 0, .bool false, .int .i8 1, .int .i64 0, .string ⟨#[98]⟩, .string ⟨#[]⟩, .slice none 0 0, .bool false, .int .i8 5, .int .i64 0, .string ⟨#[]⟩, .string ⟨#[]⟩, sv, .bool false]
/-- The two clauses, as cells. -/
def c10 (sv tv : Value) : Array Value := #[.int .i8 3, .int .i64 1, .string ⟨#[]⟩, .string ⟨#[]⟩, sv, .int .i8 3, .int .i64 1, .string ⟨#[]⟩, .string ⟨#[]⟩, tv]
theorem selW {W : World} {bI bM : Nat} {sv tv uv : Value} (hL : Letters W) (hI : W.heap[bI]? = some (.cells (c18 sv) 65 (0, 0))) (h3 : TrV (fun _ => True) W thirdT sv) (hM : W.heap[bM]? = some (.cells (c10 tv uv) 25 (0, 0))) (h8 : TrV (fun _ => True) W (clT pairN) tv) (h9 : TrV (fun _ => True) W (clT bN) uv) :
    Calls Tryz.prog 34 #[.slice (some ⟨bI, 0, none⟩) 3 3, .slice (some ⟨bM, 0, none⟩) 2 2, .slice none 0 0] W (SelPost (1, 1, [], true, 0) W) := by
  have ci : ∀ o u, (c18 sv)[o]? = some u → W.cell? ⟨bI, o, none⟩ = some u := fun o u hu => (arr_cell hI).trans hu
  have cn : ∀ o u, (c10 tv uv)[o]? = some u → W.cell? ⟨bM, o, none⟩ = some u := fun o u hu => (arr_cell hM).trans hu
  have ha : ∀ s : ByteArray, s.size ≤ 64 → TrV (fun _ => True) W (aT s) (.slice none 0 0) := fun s h => ⟨wf_small _ _ _ _ _ (by decide) (by decide) h (by decide), Kids.nil _ _⟩
  have hit : Items (fun _ => True) W (.slice (some ⟨bI, 0, none⟩) 3 3) [⟨aT sC, false⟩, ⟨aT sB, false⟩, ⟨thirdT, false⟩] := by
    refine ⟨_, 3, rfl, Nat.le_refl _, by simp [BL], fun i hi => ?_, fun e => by cases e⟩
    match i, hi with
    | 0, _ => exact ⟨bI, 0, _, rfl, trivial, ⟨ci 0 _ rfl, ci 1 _ rfl, ci 2 _ rfl, ci 3 _ rfl, ci 4 _ rfl⟩, ci 5 _ rfl, ha sC (by decide)⟩
    | 1, _ => exact ⟨bI, 0, _, rfl, trivial, ⟨ci 6 _ rfl, ci 7 _ rfl, ci 8 _ rfl, ci 9 _ rfl, ci 10 _ rfl⟩, ci 11 _ rfl, ha sB (by decide)⟩
    | 2, _ => exact ⟨bI, 0, _, rfl, trivial, ⟨ci 12 _ rfl, ci 13 _ rfl, ci 14 _ rfl, ci 15 _ rfl, ci 16 _ rfl⟩, ci 17 _ rfl, h3⟩
  have hk : Kids (fun _ => True) W (.slice (some ⟨bM, 0, none⟩) 2 2) [clT pairN, clT bN] := kids_two (F := fun _ => True) (x := clT pairN) (y := clT bN) ⟨cn 0 _ rfl, cn 1 _ rfl, cn 2 _ rfl, cn 3 _ rfl, cn 4 _ rfl⟩ ⟨cn 5 _ rfl, cn 6 _ rfl, cn 7 _ rfl, cn 8 _ rfl, cn 9 _ rfl⟩ h8 h9 trivial
  have := select_any (gB := gB0) (gH := gH0) (w := W) ⟨hL, hit, hk, Binds.nil _ _, fun c hc => ?_, fun c hc => ?_⟩
  · rwa [wake17] at this
  · simp only [List.mem_cons, List.not_mem_nil, or_false] at hc
    rcases hc with rfl | rfl <;> exact guard0 _
  · simp only [List.mem_cons, List.not_mem_nil, or_false] at hc
    rcases hc with rfl | rfl <;> exact holds0 hL _

set_option maxHeartbeats 8000000 in
set_option maxRecDepth 100000 in
theorem wakes17_any {w : World} (hL : Letters w) : Calls Tryz.prog 33 #[] w fun e w' => e = .returned (.bool true) ∧ Below w.heap.size w w' := by
  go_enter Tryz.func33, Tryz.ntmps33
  go_upto_region 2 with fail
  obtain ⟨n1, n2, hb2, hz2⟩ := two_new w (.cells #[.int .i8 7, .int .i64 0, .string ⟨#[97]⟩, .string ⟨#[]⟩, .slice none 0 0, .int .i8 5, .int .i64 0, .string ⟨#[88]⟩, .string ⟨#[]⟩, .slice none 0 0] 25) (.cells #[.int .i8 10, .int .i64 0, .string ⟨#[]⟩, .string ⟨#[]⟩, .slice (some ⟨w.heap.size, 0, none⟩) 2 2] 25)
  generalize (w.alloc (.cells #[.int .i8 7, .int .i64 0, .string ⟨#[97]⟩, .string ⟨#[]⟩, .slice none 0 0, .int .i8 5, .int .i64 0, .string ⟨#[88]⟩, .string ⟨#[]⟩, .slice none 0 0] 25)).alloc (.cells #[.int .i8 10, .int .i64 0, .string ⟨#[]⟩, .string ⟨#[]⟩, .slice (some ⟨w.heap.size, 0, none⟩) 2 2] 25) = w2 at n1 n2 hb2 hz2 ⊢
  have hc : ∀ o u, (#[.int .i8 7, .int .i64 0, .string ⟨#[97]⟩, .string ⟨#[]⟩, .slice none 0 0, .int .i8 5, .int .i64 0, .string ⟨#[88]⟩, .string ⟨#[]⟩, .slice none 0 0] : Array Value)[o]? = some u → w2.cell? ⟨w.heap.size, o, none⟩ = some u := fun o u h => (arr_cell n1).trans h
  have hsm : ∀ (k : Int) (s : ByteArray) (W : World), (Lit.int .i8 k).wf = true → s.size ≤ 64 → TrV (fun _ => True) W (.mk k 0 s ⟨#[]⟩ []) (.slice none 0 0) := fun k s W h h2 => ⟨wf_small _ _ _ _ _ h (by decide) h2 (by decide), Kids.nil _ _⟩
  have hp2 : TrV (fun _ => True) w2 pairN (.slice (some ⟨w.heap.size, 0, none⟩) 2 2) := ⟨wf_small _ _ _ _ _ (by decide) (by decide) (by decide) (by decide), kids_two (F := fun _ => True) (x := .mk 7 0 sA ⟨#[]⟩ []) (y := .mk 5 0 ⟨#[88]⟩ ⟨#[]⟩ []) ⟨hc 0 _ rfl, hc 1 _ rfl, hc 2 _ rfl, hc 3 _ rfl, hc 4 _ rfl⟩ ⟨hc 5 _ rfl, hc 6 _ rfl, hc 7 _ rfl, hc 8 _ rfl, hc 9 _ rfl⟩ (hsm 7 sA _ (by decide) (by decide)) (hsm 5 _ _ (by decide) (by decide)) trivial⟩
  go_upto_region 3 with (first
    | (go_at_call 70; refine (ratom_any w2 ⟨#[97]⟩).mono ?_; rintro e w3 ⟨rfl, hb3⟩)
    | (go_at_call 71; refine (int_any w3 1).mono ?_; rintro e w4 ⟨rfl, hb4⟩))
  obtain ⟨m1, m2, hb5, hz5⟩ := two_new w4 (.cells #[.int .i8 1, .int .i64 0, .string ⟨#[97]⟩, .string ⟨#[]⟩, .slice none 0 0, .int .i8 0, .int .i64 1, .string ⟨#[]⟩, .string ⟨#[]⟩, .slice none 0 0] 29) (.cells (cells6 ⟨thirdT, false⟩ (.slice (some ⟨w4.heap.size, 0, none⟩) 2 2)) 65)
  change Code.wp _ _ _ _ ((w4.alloc (.cells #[.int .i8 1, .int .i64 0, .string ⟨#[97]⟩, .string ⟨#[]⟩, .slice none 0 0, .int .i8 0, .int .i64 1, .string ⟨#[]⟩, .string ⟨#[]⟩, .slice none 0 0] 29)).alloc (.cells (cells6 ⟨thirdT, false⟩ (.slice (some ⟨w4.heap.size, 0, none⟩) 2 2)) 65))
  generalize (w4.alloc (.cells #[.int .i8 1, .int .i64 0, .string ⟨#[97]⟩, .string ⟨#[]⟩, .slice none 0 0, .int .i8 0, .int .i64 1, .string ⟨#[]⟩, .string ⟨#[]⟩, .slice none 0 0] 29)).alloc (.cells (cells6 ⟨thirdT, false⟩ (.slice (some ⟨w4.heap.size, 0, none⟩) 2 2)) 65) = w5 at m1 m2 hb5 hz5 ⊢
  have hb24 := hb3.trans (hb4.mono hb3.size)
  have hb25 := hb24.trans (hb5.mono hb24.size)
  have hB5 := hb2.trans (hb25.mono hb2.size)
  have hd : ∀ o u, (#[.int .i8 1, .int .i64 0, .string ⟨#[97]⟩, .string ⟨#[]⟩, .slice none 0 0, .int .i8 0, .int .i64 1, .string ⟨#[]⟩, .string ⟨#[]⟩, .slice none 0 0] : Array Value)[o]? = some u → w5.cell? ⟨w4.heap.size, o, none⟩ = some u := fun o u h => (arr_cell m1).trans h
  have ht5 : TrV (fun _ => True) w5 thirdT (.slice (some ⟨w4.heap.size, 0, none⟩) 2 2) := ⟨wf_small _ _ _ _ _ (by decide) (by decide) (by decide) (by decide), kids_two (F := fun _ => True) (x := aT sA) (y := .mk 0 1 ⟨#[]⟩ ⟨#[]⟩ []) ⟨hd 0 _ rfl, hd 1 _ rfl, hd 2 _ rfl, hd 3 _ rfl, hd 4 _ rfl⟩ ⟨hd 5 _ rfl, hd 6 _ rfl, hd 7 _ rfl, hd 8 _ rfl, hd 9 _ rfl⟩ (hsm 1 sA _ (by decide) (by decide)) ⟨wf_small _ _ _ _ _ (by decide) (by decide) (by decide) (by decide), Kids.nil _ _⟩ trivial⟩
  have hp5 := hp2.below hb25
  have n25 := (hb25.block _ (show w.heap.size + 1 < w2.heap.size by omega)).trans n2
  obtain ⟨_, ⟨t0, t1, t2, t3, t4, t5⟩, _⟩ := six_facts m2
  have hL5 := Lib.hid (hL.under hB5)
  have q : ∀ o, w5.cell? ⟨w.heap.size + 1, o, none⟩ = (#[.int .i8 10, .int .i64 0, .string ⟨#[]⟩, .string ⟨#[]⟩, .slice (some ⟨w.heap.size, 0, none⟩) 2 2] : Array Value)[o]? := fun o => arr_cell n25
  have q0 : w5.cell? ⟨w.heap.size + 1, 0, none⟩ = some (.int .i8 10) := q 0
  have q1 : w5.cell? ⟨w.heap.size + 1, 1, none⟩ = some (.int .i64 0) := q 1
  have q2 : w5.cell? ⟨w.heap.size + 1, 2, none⟩ = some (.string ⟨#[]⟩) := q 2
  have q3 : w5.cell? ⟨w.heap.size + 1, 3, none⟩ = some (.string ⟨#[]⟩) := q 3
  have q4 : w5.cell? ⟨w.heap.size + 1, 4, none⟩ = some (.slice (some ⟨w.heap.size, 0, none⟩) 2 2) := q 4
  clear n1 n2 hb2 hz2 hc hb3 hb4 m1 m2 hb5 hz5 hb24 hb25 hd hp2 n25 q hsm hL
  generalize w.heap.size + 1 = bp at *
  generalize w4.heap.size + 1 = bt at *
  generalize w4.heap.size = b3 at *
  have hS : ∀ W : World, Below w5.heap.size w5 W → W.cell? ⟨bp, 0, none⟩ = some (.int .i8 10) ∧ W.cell? ⟨bp, 1, none⟩ = some (.int .i64 0) ∧ W.cell? ⟨bp, 2, none⟩ = some (.string ⟨#[]⟩) ∧ W.cell? ⟨bp, 3, none⟩ = some (.string ⟨#[]⟩) ∧ W.cell? ⟨bp, 4, none⟩ = some (.slice (some ⟨w.heap.size, 0, none⟩) 2 2) ∧ W.cell? ⟨bt, 0, none⟩ = some (.int .i8 5) ∧ W.cell? ⟨bt, 1, none⟩ = some (.int .i64 0) ∧ W.cell? ⟨bt, 2, none⟩ = some (.string ⟨#[]⟩) ∧ W.cell? ⟨bt, 3, none⟩ = some (.string ⟨#[]⟩) ∧ W.cell? ⟨bt, 4, none⟩ = some (.slice (some ⟨b3, 0, none⟩) 2 2) ∧ W.cell? ⟨bt, 5, none⟩ = some (.bool false) := by
    intro W hb
    have f : ∀ g o u, w5.cell? ⟨g, o, none⟩ = some u → W.cell? ⟨g, o, none⟩ = some u := fun g o u h => (hb.cell (p := ⟨g, o, none⟩) (cell_block h)).trans h
    exact ⟨f _ _ _ q0, f _ _ _ q1, f _ _ _ q2, f _ _ _ q3, f _ _ _ q4, f _ _ _ t0, f _ _ _ t1, f _ _ _ t2, f _ _ _ t3, f _ _ _ t4, f _ _ _ t5⟩
  have hS0 := hS w5 (Below.refl _ _)
  have hd : Below w5.heap.size w5 w5.drew := below_drewN (Below.refl _ _) 1
  clear q0 q1 q2 q3 q4 t0 t1 t2 t3 t4 t5
  go_region_held3 (fun W => W.cell? ⟨bp, 0, none⟩ = some (.int .i8 10) ∧ W.cell? ⟨bp, 1, none⟩ = some (.int .i64 0) ∧ W.cell? ⟨bp, 2, none⟩ = some (.string ⟨#[]⟩) ∧ W.cell? ⟨bp, 3, none⟩ = some (.string ⟨#[]⟩) ∧ W.cell? ⟨bp, 4, none⟩ = some (.slice (some ⟨w.heap.size, 0, none⟩) 2 2) ∧ W.cell? ⟨bt, 0, none⟩ = some (.int .i8 5) ∧ W.cell? ⟨bt, 1, none⟩ = some (.int .i64 0) ∧ W.cell? ⟨bt, 2, none⟩ = some (.string ⟨#[]⟩) ∧ W.cell? ⟨bt, 3, none⟩ = some (.string ⟨#[]⟩) ∧ W.cell? ⟨bt, 4, none⟩ = some (.slice (some ⟨b3, 0, none⟩) 2 2) ∧ W.cell? ⟨bt, 5, none⟩ = some (.bool false)) (first | exact hS0 | exact hS1 | exact hS2 | exact hS3 | exact hS4 | exact hS _ (hB9.trans ((alloc_below _ _).mono hB9.size)) | exact hS _ ((hB9.trans ((alloc_below _ _).mono hB9.size)).trans ((alloc_below _ _).mono (hB9.trans ((alloc_below _ _).mono hB9.size)).size)) | exact hS _ (hB8.trans ((alloc_below _ _).mono hB8.size)) | exact hS _ (hB7.trans ((alloc_below _ _).mono hB7.size))) (first
    | (go_at_call 72; refine (item_any _ ⟨#[99]⟩).mono ?_; rintro e w6 ⟨rfl, hb6⟩
       have hB6 := hd.trans (hb6.mono hd.size)
       have hS1 := hS _ hB6)
    | (go_at_call 72; refine (item_any _ ⟨#[98]⟩).mono ?_; rintro e w7 ⟨rfl, hb7⟩
       have hB7 := hB6.trans (hb7.mono hB6.size)
       have hS2 := hS _ hB7)
    | (go_at_call 73; refine (takes_any (F := fun _ => True) (p := pairN) (hp5.below (by first | exact hB7 | exact hB7.trans ((alloc_below _ _).mono hB7.size)))).mono ?_; rintro e w8 ⟨sv8, rfl, ht8, hb8⟩
       have hB8 : Below w5.heap.size w5 w8 := by first | exact hB7.trans (hb8.mono hB7.size) | exact (hB7.trans ((alloc_below _ _).mono hB7.size)).trans (hb8.mono (hB7.trans ((alloc_below _ _).mono hB7.size)).size)
       have hS3 := hS _ hB8
       obtain ⟨p8, c8, rfl⟩ := ht8.kids.slice)
    | (go_at_call 73; refine (takes_any (F := fun _ => True) (p := bN) ⟨wf_small _ _ _ _ _ (by decide) (by decide) (by decide) (by decide), Kids.nil _ _⟩).mono ?_; rintro e w9 ⟨sv9, rfl, ht9, hb9⟩
       have hB9 : Below w5.heap.size w5 w9 := by first | exact hB8.trans (hb9.mono hB8.size) | exact (hB8.trans ((alloc_below _ _).mono hB8.size)).trans (hb9.mono (hB8.trans ((alloc_below _ _).mono hB8.size)).size)
       have hS4 := hS _ hB9
       obtain ⟨p9, c9, rfl⟩ := ht9.kids.slice)
    | (go_at_call 34
       refine Calls.mono (selW (hL5.out.under (hB9.trans ((alloc_below w9 _).mono hB9.size))) (carry (carry (carry (heap_new w7 _) hb8) hb9) (alloc_below w9 _)) (ht5.below (hB9.trans ((alloc_below w9 _).mono hB9.size))) (heap_new w9 _) ((ht8.below hb9).below (alloc_below w9 _)) (ht9.below (alloc_below w9 _))) ?_
       rintro e w11 ⟨v11, l11, i11, j11, ok11, er11, rfl, hl11, hb11, hq11⟩
       cases hq11
       obtain ⟨p11, c11, rfl⟩ := hl11.slice
       have hB11 : Below w5.heap.size w5 w11 := (hB9.trans ((alloc_below w9 _).mono hB9.size)).trans (hb11.mono (hB9.trans ((alloc_below w9 _).mono hB9.size)).size)
       have hS4 := hS _ hB11)
    | (go_at_call 34
       refine Calls.mono (selW (hL5.out.under (hB9.trans ((alloc_below w9 _).mono hB9.size))) (carry (carry (heap_new w8 _) hb9) (alloc_below w9 _)) (ht5.below (hB9.trans ((alloc_below w9 _).mono hB9.size))) (heap_new w9 _) (((ht8.below (alloc_below w8 _)).below hb9).below (alloc_below w9 _)) (ht9.below (alloc_below w9 _))) ?_
       rintro e w11 ⟨v11, l11, i11, j11, ok11, er11, rfl, hl11, hb11, hq11⟩
       cases hq11
       obtain ⟨p11, c11, rfl⟩ := hl11.slice
       have hB11 : Below w5.heap.size w5 w11 := (hB9.trans ((alloc_below w9 _).mono hB9.size)).trans (hb11.mono (hB9.trans ((alloc_below w9 _).mono hB9.size)).size)
       have hS4 := hS _ hB11)
    | (go_at_call 34
       refine Calls.mono (selW (hL5.out.under ((hB9.trans ((alloc_below _ _).mono hB9.size)).trans ((alloc_below _ _).mono (hB9.trans ((alloc_below _ _).mono hB9.size)).size))) ((two_new w9 _ _).1) (ht5.below ((hB9.trans ((alloc_below _ _).mono hB9.size)).trans ((alloc_below _ _).mono (hB9.trans ((alloc_below _ _).mono hB9.size)).size))) ((two_new w9 _ _).2.1) (((ht8.below hb9).below (alloc_below w9 _)).below (alloc_below _ _)) ((ht9.below (alloc_below w9 _)).below (alloc_below _ _))) ?_
       rintro e w11 ⟨v11, l11, i11, j11, ok11, er11, rfl, hl11, hb11, hq11⟩
       cases hq11
       obtain ⟨p11, c11, rfl⟩ := hl11.slice
       have hB11 : Below w5.heap.size w5 w11 := ((hB9.trans ((alloc_below w9 _).mono hB9.size)).trans ((alloc_below _ _).mono (hB9.trans ((alloc_below w9 _).mono hB9.size)).size)).trans (hb11.mono ((hB9.trans ((alloc_below w9 _).mono hB9.size)).trans ((alloc_below _ _).mono (hB9.trans ((alloc_below w9 _).mono hB9.size)).size)).size)
       have hS4 := hS _ hB11)
    | (go_at_call 34
       refine Calls.mono (selW (hL5.out.under ((hB9.trans ((alloc_below _ _).mono hB9.size)).trans ((alloc_below _ _).mono (hB9.trans ((alloc_below _ _).mono hB9.size)).size))) ((two_new w9 _ _).2.1) (ht5.below ((hB9.trans ((alloc_below _ _).mono hB9.size)).trans ((alloc_below _ _).mono (hB9.trans ((alloc_below _ _).mono hB9.size)).size))) ((two_new w9 _ _).1) (((ht8.below hb9).below (alloc_below w9 _)).below (alloc_below _ _)) ((ht9.below (alloc_below w9 _)).below (alloc_below _ _))) ?_
       rintro e w11 ⟨v11, l11, i11, j11, ok11, er11, rfl, hl11, hb11, hq11⟩
       cases hq11
       obtain ⟨p11, c11, rfl⟩ := hl11.slice
       have hB11 : Below w5.heap.size w5 w11 := ((hB9.trans ((alloc_below w9 _).mono hB9.size)).trans ((alloc_below _ _).mono (hB9.trans ((alloc_below w9 _).mono hB9.size)).size)).trans (hb11.mono ((hB9.trans ((alloc_below w9 _).mono hB9.size)).trans ((alloc_below _ _).mono (hB9.trans ((alloc_below w9 _).mono hB9.size)).size)).size)
       have hS4 := hS _ hB11))
  all_goals
    go_wp2
    go_ret
    exact ⟨rfl, hB5.trans (hB11.mono hB5.size)⟩
end Go.Proofs.YtlhobpknflobgaaGreatDoor
