/-
  Items of a mailbox as they lie in memory; rows of items that the call makes. Names no function of the program. Conditions: the items lie as 'Items' says.
-/
import Derived.Test.YtlhobpknflobgaaGreatDoorS19
import Derived.Laws.AppendOwnNone
namespace Go.Proofs.YtlhobpknflobgaaGreatDoor
open Go.RowKit

/-- An item: a term, and whether it is ours. -/
structure It where
  t : Tr
  o : Bool
/-- An item's six cells. -/
def icells (q : It × Value) : List Value := [.int .i8 q.1.t.k, .int .i64 q.1.t.n, .string q.1.t.s, .string q.1.t.t, q.2, .bool q.1.o]
def ItemAt (F : Nat → Prop) (w : World) (p : Option Addr) (i : Nat) (x : It) : Prop := ∃ g o sv, p = some ⟨g, o, none⟩ ∧ F g ∧ NodeAt w g (o + i * 6) x.t sv ∧ w.cell? ⟨g, o + i * 6 + 5, none⟩ = some (.bool x.o) ∧ TrV F w x.t sv
/-- A slice of items. -/
def Items (F : Nat → Prop) (w : World) (v : Value) (l : List It) : Prop := ∃ p c, v = .slice p l.length c ∧ l.length ≤ c ∧ l.length ≤ BL ∧ (∀ i (h : i < l.length), ItemAt F w p i l[i]) ∧ (p = none → c = 0)
theorem ItemAt.keep {F : Nat → Prop} {w w' : World} {p : Option Addr} {i : Nat} {x : It} (h : ItemAt F w p i x) (hb : ∀ g, F g → g < w.heap.size → w'.heap[g]? = w.heap[g]?) : ItemAt F w' p i x := by
  obtain ⟨g, o, sv, h1, h2, h3, h4, h5⟩ := h
  exact ⟨g, o, sv, h1, h2, h3.keep (hb g h2 h3.lt), (World.cell?_of_block (a := ⟨g, o + i * 6 + 5, none⟩) (hb g h2 (cell_block h4))).trans h4, h5.wf, h5.kids.keep hb⟩
theorem Items.keep {F : Nat → Prop} {w w' : World} {v : Value} {l : List It} (h : Items F w v l) (hb : ∀ g, F g → g < w.heap.size → w'.heap[g]? = w.heap[g]?) : Items F w' v l := by
  obtain ⟨p, c, h1, h2, h3, h4⟩ := h
  exact ⟨p, c, h1, h2, h3, fun i hi => (h4.1 i hi).keep hb, h4.2⟩
theorem Items.under {F : Nat → Prop} {w w' : World} {v : Value} {l : List It} (h : Items F w v l) (hb : Below w.heap.size w w') : Items F w' v l := h.keep fun g _ hg => hb.block g hg
theorem Items.mono {F F' : Nat → Prop} {w : World} {v : Value} {l : List It} (h : Items F w v l) (hF : ∀ g, F g → g < w.heap.size → F' g) : Items F' w v l := by
  obtain ⟨p, c, h1, h2, h3, h4⟩ := h
  refine ⟨p, c, h1, h2, h3, fun i hi => ?_, h4.2⟩
  obtain ⟨g, o, sv, k1, k2, k3, k4, k5⟩ := h4.1 i hi
  exact ⟨g, o, sv, k1, hF g k2 k3.lt, k3, k4, k5.wf, k5.kids.mono hF⟩
theorem Items.nil (F : Nat → Prop) (w : World) : Items F w (.slice none 0 0) [] := ⟨none, 0, rfl, Nat.le_refl _, Nat.zero_le _, fun i hi => absurd hi (by simp), fun _ => rfl⟩
theorem Items.slice {F : Nat → Prop} {w : World} {v : Value} {l : List It} (h : Items F w v l) : ∃ p c, v = .slice p l.length c := by
  obtain ⟨p, c, h1, _⟩ := h
  exact ⟨p, c, h1⟩
theorem Items.len {F : Nat → Prop} {w : World} {v : Value} {l : List It} (h : Items F w v l) : l.length ≤ BL := by
  obtain ⟨p, c, _, _, h, _⟩ := h
  exact h
theorem Items.room {F : Nat → Prop} {w : World} {p : Option Addr} {n c : Nat} {l : List It} (h : Items F w (.slice p n c) l) : n = l.length ∧ l.length ≤ c := by
  obtain ⟨p', c', he, h1, _⟩ := h
  cases he
  exact ⟨rfl, h1⟩
theorem Items.at {F : Nat → Prop} {w : World} {p : Option Addr} {n c : Nat} {l : List It} (h : Items F w (.slice p n c) l) {i : Nat} (hi : i < l.length) : ItemAt F w p i l[i] := by
  obtain ⟨p', c', he, _, _, hx⟩ := h
  cases he
  exact hx.1 i hi
theorem Items.none {F : Nat → Prop} {w : World} {n c : Nat} {l : List It} (h : Items F w (.slice Option.none n c) l) : l.length = 0 ∧ c = 0 := by
  obtain ⟨p', c', he, _, _, hx, h0⟩ := h
  cases he
  refine ⟨?_, h0 rfl⟩
  by_cases hl : 0 < l.length
  · obtain ⟨g, o, sv, e, _⟩ := hx 0 hl
    cases e
  · omega
theorem Items.front {F : Nat → Prop} {w : World} {p : Option Addr} {n c : Nat} {l m : List It} (h : Items F w (.slice p n c) (l ++ m)) (c2 : Nat) (h2 : l.length ≤ c2) (h3 : p = Option.none → c2 = 0) : Items F w (.slice p l.length c2) l := by
  obtain ⟨p', c', he, k1, k2, k3, k4⟩ := h
  cases he
  rw [List.length_append] at k1 k2
  refine ⟨p, c2, rfl, h2, by omega, fun i hi => ?_, h3⟩
  have := k3 i (by rw [List.length_append]; omega)
  rwa [List.getElem_append_left hi] at this
theorem Items.back {F : Nat → Prop} {w : World} {ad : Addr} {n c : Nat} {l m : List It} (h : Items F w (.slice (some ad) n c) (l ++ m)) : Items F w (.slice (some (ad.add (l.length * 6))) m.length (c - l.length)) m := by
  obtain ⟨p', c', he, h1, h2, h3, h4⟩ := h
  cases he
  rw [List.length_append] at h1 h2
  refine ⟨_, _, rfl, by omega, by omega, fun i hi => ?_, fun e => by cases e⟩
  obtain ⟨g, o, sv, k1, k2, k3, k4, k5⟩ := h3 (l.length + i) (by rw [List.length_append]; omega)
  rw [List.getElem_append_right (by omega)] at k3 k4 k5
  simp only [Nat.add_sub_cancel_left] at k3 k4 k5
  rw [Nat.add_mul, ← Nat.add_assoc] at k3 k4
  cases k1
  exact ⟨g, o + l.length * 6, sv, by rw [addr_add], k2, k3, k4, k5⟩
theorem flat6i : ∀ (L : List (It × Value)) (k : Nat) (hk : k < L.length) (j : Nat), j < 6 → (L.flatMap icells)[k * 6 + j]? = (icells L[k])[j]?
  | q :: r, 0, _, j, hj => by
    simp only [List.flatMap_cons, Nat.zero_mul, Nat.zero_add, List.getElem_cons_zero]
    rw [List.getElem?_append_left (by simp [icells]; omega)]
  | q :: r, k + 1, hk, j, hj => by
    have := flat6i r k (by simpa using hk) j hj
    simp only [List.flatMap_cons, List.getElem_cons_succ]
    rw [List.getElem?_append_right (by simp [icells]; omega)]
    rw [show (k + 1) * 6 + j - (icells q).length = k * 6 + j from by simp [icells]; omega]
    exact this
theorem flat6i_len (L : List (It × Value)) : (L.flatMap icells).length = L.length * 6 := by
  induction L with
  | nil => rfl
  | cons q r ih => simp only [List.flatMap_cons, List.length_append, ih, List.length_cons]; simp [icells]; omega
theorem items_row {F : Nat → Prop} {w : World} {base : Nat} {v : Value} {L : List (It × Value)} {T : TypeId} (h : w.ownsRow base T 6 v L.length (L.flatMap icells)) (hF : ∀ k, base ≤ k → F k) (hL : ∀ q ∈ L, TrV F w q.1.t q.2) (hb : L.length ≤ BL) :
    Items F w v (L.map (·.1)) := by
  obtain ⟨_, h1⟩ := h
  rcases h1 with ⟨rfl, h0⟩ | ⟨g, cap, cur, rfl, hg, hh, hc, _, _, ht⟩
  · have : L = [] := List.eq_nil_of_length_eq_zero h0
    subst this
    exact Items.nil F w
  · have hget : ∀ j, j < L.length * 6 → ∀ u, (L.flatMap icells)[j]? = some u → w.cell? ⟨g, j, none⟩ = some u := by
      intro j hj u hu
      rw [← ht, List.getElem?_take, if_pos hj] at hu
      simp [World.cell?, hh]
      simpa using hu
    refine ⟨some ⟨g, 0, none⟩, cap, by simp, by simpa using hc, by simpa using hb, fun i hi => ?_, fun e => by cases e⟩
    have hi' : i < L.length := by simpa using hi
    have hm : (L.map (·.1))[i] = L[i].1 := by simp
    have hq := hL L[i] (List.getElem_mem hi')
    have hc := fun j (hj : j < 6) => hget (i * 6 + j) (by omega) 
    rw [hm]
    refine ⟨g, 0, L[i].2, rfl, hF g hg, ⟨?_, ?_, ?_, ?_, ?_⟩, ?_, hq⟩
    · have := hc 0 (by omega) _ (by rw [flat6i L i hi' 0 (by omega)]; rfl); simpa using this
    · have := hc 1 (by omega) _ (by rw [flat6i L i hi' 1 (by omega)]; rfl); simpa using this
    · have := hc 2 (by omega) _ (by rw [flat6i L i hi' 2 (by omega)]; rfl); simpa using this
    · have := hc 3 (by omega) _ (by rw [flat6i L i hi' 3 (by omega)]; rfl); simpa using this
    · have := hc 4 (by omega) _ (by rw [flat6i L i hi' 4 (by omega)]; rfl); simpa using this
    · have := hc 5 (by omega) _ (by rw [flat6i L i hi' 5 (by omega)]; rfl); simpa using this
/-- Items, with their cells in a row. -/
theorem Items.cells {F : Nat → Prop} {w : World} {p : Option Addr} {n c : Nat} {l : List It} (h : Items F w (.slice p n c) l) : ∃ L : List (It × Value), L.map (·.1) = l ∧ (∀ q ∈ L, TrV F w q.1.t q.2) ∧ ∀ b, p = some b → ∀ j u, (L.flatMap icells)[j]? = some u → w.cell? (b.add j) = some u := by
  have key : ∀ (m : List It) (k : Nat), (∀ i (h : i < m.length), ItemAt F w p (k + i) m[i]) → ∃ L : List (It × Value), L.map (·.1) = m ∧ (∀ q ∈ L, TrV F w q.1.t q.2) ∧ ∀ b, p = some b → ∀ j u, (L.flatMap icells)[j]? = some u → w.cell? (b.add (k * 6 + j)) = some u := by
    intro m
    induction m with
    | nil => exact fun k _ => ⟨[], rfl, fun q hq => absurd hq (by simp), fun b _ j u hu => by simp at hu⟩
    | cons b m ih =>
      intro k hk
      obtain ⟨L, h1, h2, h3⟩ := ih (k + 1) (fun i hi => by have := hk (i + 1) (by simpa using hi); rwa [show k + (i + 1) = k + 1 + i from by omega] at this)
      obtain ⟨g, o, sv, hp, _, hn, hs, ht⟩ := hk 0 (by simp)
      refine ⟨(b, sv) :: L, by simp [h1], fun q hq => ?_, fun a ha j u hu => ?_⟩
      · rcases List.mem_cons.1 hq with rfl | hq
        · exact ht
        · exact h2 q hq
      · rw [hp] at ha
        cases ha
        simp only [Nat.add_zero, List.getElem_cons_zero] at hs hn
        simp only [List.flatMap_cons] at hu
        rw [addr_add]
        by_cases hj : j < 6
        · rw [List.getElem?_append_left (by simpa [icells] using hj)] at hu
          obtain ⟨a0, a1, a2, a3, a4⟩ := hn
          match j, hj with
          | 0, _ => simp [icells] at hu; rw [← hu]; exact a0
          | 1, _ => simp [icells] at hu; rw [← hu]; exact a1
          | 2, _ => simp [icells] at hu; rw [← hu]; exact a2
          | 3, _ => simp [icells] at hu; rw [← hu]; exact a3
          | 4, _ => simp [icells] at hu; rw [← hu]; exact a4
          | 5, _ => simp [icells] at hu; rw [← hu]; exact hs
        · rw [List.getElem?_append_right (by simp [icells]; omega)] at hu
          have := h3 _ hp (j - (icells (b, sv)).length) u hu
          rw [addr_add] at this
          rw [show o + (k * 6 + j) = o + ((k + 1) * 6 + (j - (icells (b, sv)).length)) from by simp [icells]; omega]
          exact this
  obtain ⟨p', c', he, _, _, hx⟩ := h
  cases he
  obtain ⟨L, h1, h2, h3⟩ := key l 0 (fun i hi => by rw [Nat.zero_add]; exact hx.1 i hi)
  exact ⟨L, h1, h2, fun b hb j u hu => by have := h3 b hb j u hu; simpa using this⟩
theorem icells_plain {F : Nat → Prop} {w : World} {q : It × Value} (h : TrV F w q.1.t q.2) : ∀ u ∈ icells q, u.oneCell' = true := by
  obtain ⟨p, c, e⟩ := h.kids.slice
  intro u hu
  simp only [icells, List.mem_cons, List.not_mem_nil, or_false] at hu
  rcases hu with rfl | rfl | rfl | rfl | rfl | rfl
  all_goals first | rfl | (rw [e]; rfl)
theorem infoItem : (Tryz.prog.info? 65).map (fun i => (i.zero, i.size, i.bytes)) = some (some (.agg #[.int .i8 0, .int .i64 0, .string ⟨#[]⟩, .string ⟨#[]⟩, .slice none 0 0, .bool false]), 6, 80) := by kernel_rfl

/-- A row of items that the call makes; their terms lie ahead of it. -/
structure IRow (base : Nat) (w : World) (v : Value) (L : List (It × Value)) : Prop where
  own : w.ownsRow base 65 6 v L.length (L.flatMap icells)
  at_ : ∀ q ∈ L, TrV (fun g => g < base) w q.1.t q.2
theorem IRow.nil (base : Nat) (w : World) : IRow base w (.slice none 0 0) [] := ⟨World.ownsRow_nil .., fun q hq => by simp at hq⟩
theorem IRow.items {base : Nat} {w : World} {v : Value} {L : List (It × Value)} (h : IRow base w v L) (hl : L.length ≤ BL) : Items (fun _ => True) w v (L.map (·.1)) :=
  items_row h.own (fun _ _ => trivial) (fun q hq => ⟨(h.at_ q hq).wf, (h.at_ q hq).kids.mono fun _ _ _ => trivial⟩) hl
theorem IRow.under {base : Nat} {w w' : World} {v : Value} {L : List (It × Value)} (h : IRow base w v L) (hb : Below w.heap.size w w') : IRow base w' v L := ⟨row_under h.own hb, fun q hq => (h.at_ q hq).below hb⟩
theorem IRow.slice {base : Nat} {w : World} {v : Value} {L : List (It × Value)} (h : IRow base w v L) : ∃ q c, v = .slice q L.length c := row_shape h.own
theorem IRow.push {base : Nat} {w w' : World} {v v' : Value} {L : List (It × Value)} {b : It} {sv : Value} (h : IRow base w v L) (hx : TrV (fun g => g < base) w b.t sv) (hown : w'.ownsRow base 65 6 v' (L.length + 1) (L.flatMap icells ++ icells (b, sv))) (hb : Below base w w') :
    IRow base w' v' (L ++ [(b, sv)]) := by
  refine ⟨by rw [List.length_append, List.flatMap_append]; simpa using hown, fun q hq => ?_⟩
  have hq' : TrV (fun g => g < base) w q.1.t q.2 := by
    rcases List.mem_append.1 hq with hq | hq
    · exact h.at_ q hq
    · simp only [List.mem_singleton] at hq; subst hq; exact hx
  exact ⟨hq'.wf, hq'.kids.keep fun g hg' hl => hb.block g hg'⟩
set_option maxRecDepth 10000 in
/-- An append of items to a row of the call's own, as the machine runs it. -/
theorem run_append_items {w : World} (ty : TypeId) (base : Nat) (v : Value) (L : List (It × Value)) (hrow : IRow base w v L) (p : Option Addr) (n c : Nat) (l : List It) (hsrc : Items (fun g => g < base) w (.slice p n c) l)
    (hlen : L.length + l.length ≤ 1048576) (hbase : base ≤ w.heap.size) :
    ∃ v' w' L', (Builtin.append_ #[55, 55] ty #[v, .slice p n c]).run Tryz.prog w = .ok v' w' ∧ IRow base w' v' (L ++ L') ∧ L'.map (·.1) = l ∧ Below base w w' := by
  obtain ⟨i0, hi, hz0, hz1, hz2⟩ := info_parts infoItem
  obtain ⟨Ls, hLm, hLt, hLc⟩ := hsrc.cells
  have hLl : Ls.length = l.length := by rw [← hLm, List.length_map]
  have hn : n = l.length := hsrc.room.1
  cases p with
  | none =>
    obtain ⟨h1, h2⟩ := hsrc.none
    obtain rfl : Ls = [] := List.eq_nil_of_length_eq_zero (by omega)
    obtain rfl : c = 0 := h2
    obtain rfl : n = 0 := by omega
    exact ⟨v, w, [], run_append_owned_none (P := Tryz.prog) (w := w) base 55 ty 65 i0 6 Tryz.underlying55 hi v L.length (L.flatMap icells) hrow.own, by rw [List.append_nil]; exact hrow, hLm, Below.refl _ _⟩
  | some ad =>
    obtain ⟨v', w', hr, hown, hg, _⟩ := run_append_own (P := Tryz.prog) w base 55 ty 65 i0 _ 6 80 Tryz.underlying55 hi hz0 hz1 hz2 rfl (by decide) v L.length (L.flatMap icells) hrow.own ad n c (Ls.flatMap icells) (by rw [flat6i_len, hLl, hn]) (hLc ad rfl)
      (fun u hu => by obtain ⟨q, hq, hu⟩ := List.mem_flatMap.1 hu; exact icells_plain (hLt q hq) u hu) (by unfold maxLen; omega) (by omega) hbase
    have hB : Below base w w' := (Below.refl _ _).grown hg hbase (row_base hrow.own)
    refine ⟨v', w', Ls, hr, ⟨by rw [List.length_append, List.flatMap_append, hLl, ← hn]; exact hown, fun q hq => ?_⟩, hLm, hB⟩
    have hq' : TrV (fun g => g < base) w q.1.t q.2 := by
      rcases List.mem_append.1 hq with hq | hq
      · exact hrow.at_ q hq
      · exact hLt q hq
    exact ⟨hq'.wf, hq'.kids.keep fun g hg' hl => hB.block g hg'⟩
theorem wpList_append_items {w : World} {ops : Array Oper} {rest : List Oper} {o : Oper} {a : Act} {Q : Exit → Act → World → Prop} (hgd : o.guard = none) (s x : Operand)
    (ho : o.op = .call { callee := .builtin .append, args := #[s, x], argTypes := #[55, 55] })
    (base : Nat) (v : Value) (L : List (It × Value)) (hs : a.eval s = v) (hrow : IRow base w v L) (p : Option Addr) (n c : Nat) (l : List It) (hx : a.eval x = .slice p n c) (hsrc : Items (fun g => g < base) w (.slice p n c) l)
    (hlen : L.length + l.length ≤ 1048576) (hbase : base ≤ w.heap.size)
    (h : ∀ v' w' L', IRow base w' v' (L ++ L') → L'.map (·.1) = l → Below base w w' → wpList Tryz.prog ops Q rest (a.put o.dst v') w') : wpList Tryz.prog ops Q (o :: rest) a w := by
  refine wpList_plain hgd fun K hK => ?_
  obtain ⟨v', w', L', hr, k1, k2, k3⟩ := run_append_items o.type base v L hrow p n c l hsrc hlen hbase
  unfold Oper.wp
  simp [execOp, ho, resolve, invoke, builtin, hs, hx, hr, Result.andThen]
  exact hK _ _ (h v' w' L' k1 k2 k3)
/-- The same as one step of a region that draws. -/
theorem step_append_items {w : World} {ops : Array Oper} {o : Oper} {a : Act} {K : Act → World → Prop} {Q : Exit → Act → World → Prop} {E : Prop} (hgd : o.guard = none) (s x : Operand)
    (ho : o.op = .call { callee := .builtin .append, args := #[s, x], argTypes := #[55, 55] })
    (base : Nat) (v : Value) (L : List (It × Value)) (hs : a.eval s = v) (hrow : IRow base w v L) (p : Option Addr) (n c : Nat) (l : List It) (hx : a.eval x = .slice p n c) (hsrc : Items (fun g => g < base) w (.slice p n c) l)
    (hlen : L.length + l.length ≤ 1048576) (hbase : base ≤ w.heap.size)
    (h : ∀ v' w' L', IRow base w' v' (L ++ L') → L'.map (·.1) = l → Below base w w' → K (a.put o.dst v') w') :
    if Region.wanted o (yielded ops a.tmps) = true then Oper.wp Tryz.prog o a w K Q else E := by
  have hw : Region.wanted o (yielded ops a.tmps) = true := by simp [Region.wanted, hgd]
  rw [if_pos hw]
  obtain ⟨v', w', L', hr, k1, k2, k3⟩ := run_append_items o.type base v L hrow p n c l hsrc hlen hbase
  unfold Oper.wp
  simp [execOp, ho, resolve, invoke, builtin, hs, hx, hr, Result.andThen]
  exact h v' w' L' k1 k2 k3
end Go.Proofs.YtlhobpknflobgaaGreatDoor
