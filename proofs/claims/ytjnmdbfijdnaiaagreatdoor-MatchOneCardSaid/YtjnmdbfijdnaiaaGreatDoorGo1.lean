/-
  Pure laws: terms of one place in the order are the same; a term's parts may be; what a pattern does with a term ('Tr.go'). No program, no condition.
-/
import Derived.Test.YtjnmdbfijdnaiaaGreatDoorBind3
namespace Go.Proofs.YtjnmdbfijdnaiaaGreatDoor
open Go.RowKit

/-- A name's term. -/
def bfind (l : List Bd) (s : ByteArray) : Option Tr := (l.find? fun b => b.s.toList == s.toList).map (·.t)

theorem less_irr : ∀ a : List UInt8, Op.bytesLess a a = false
  | [] => rfl
  | x :: r => by rw [Op.bytesLess, less_irr r]; simp
theorem cmpS_zero {a b : ByteArray} : cmpS a b = 0 ↔ (a.toList == b.toList) = true := by
  unfold cmpS
  cases h : (a.toList == b.toList)
  · split <;> simp
  · have : a.toList = b.toList := by simpa using h
    rw [this, less_irr]; simp
theorem orI_zero : ∀ l : List Int, orI l = 0 ↔ ∀ x ∈ l, x = 0
  | [] => by simp [orI]
  | x :: r => by
    rw [orI]
    split
    · rename_i h; rw [orI_zero r]; simp [h]
    · rename_i h; simp [h]

/-- Terms that are of one place in the order are the same. -/
theorem ord_same (x : Tr) : ∀ y, x.ord y = 0 ↔ x.same y = true := by
  induction x using Tr.ind with
  | h x ih =>
    intro y
    rw [ord_eq, same_eq]
    have key : ∀ (l m : List Tr), (∀ z ∈ l, z ∈ x.l) → l.length = m.length → (Tr.ord.ordl l m = 0 ↔ Tr.same.samel l m = true) := by
      intro l
      induction l with
      | nil => intro m _ h; cases m with | nil => simp [Tr.ord.ordl, Tr.same.samel] | cons => simp at h
      | cons a l ihl =>
        intro m hm h
        cases m with
        | nil => simp at h
        | cons b m =>
          have h1 := ih a (hm a (by simp)) b
          have h2 := ihl m (fun z hz => hm z (List.mem_cons_of_mem _ hz)) (by simpa using h)
          rw [Tr.ord.ordl, Tr.same.samel]
          split
          · rename_i h0; rw [h2, h1.1 h0]; simp
          · rename_i h0
            constructor
            · exact fun h => absurd h h0
            · intro h3; simp only [Bool.and_eq_true] at h3; exact absurd (h1.2 h3.1) h0
    by_cases hk : x.k = y.k
    · rw [if_pos hk, orI_zero]
      simp only [List.mem_cons, List.not_mem_nil, or_false, forall_eq_or_imp, forall_eq, cmpI_zero, cmpS_zero, Bool.and_eq_true, beq_iff_eq]
      constructor
      · rintro ⟨a, b, c, d, e⟩
        exact ⟨hk, d, b, c, a, (key _ _ (fun _ h => h) (by omega)).1 e⟩
      · rintro ⟨_, d, b, c, a, e⟩
        exact ⟨a, b, c, d, (key _ _ (fun _ h => h) (by omega)).2 e⟩
    · rw [if_neg hk, cmpI_zero]
      simp [hk]
theorem cmp_same {x y : Tr} (hx : chkT x = 0) (hy : chkT y = 0) : (cmpT x y == 0) = x.same y := by
  unfold cmpT
  rw [if_pos ⟨hx, hy⟩]
  have := ord_same x y
  cases h : x.same y
  · rw [h] at this; simpa using this
  · simpa using this.2 h

theorem cnt_more (x : Tr) : ∀ m : Int, 1 ≤ m → (x.cnt m).2 = true → (x.cnt m).1 < m → ∀ m', m ≤ m' → x.cnt m' = x.cnt m := by
  induction x using Tr.ind with
  | h x ih =>
    intro m hm h2 h1 m' hmm
    rw [cnt_eq] at h1 h2
    rw [cnt_eq, cnt_eq]
    split
    · rename_i ho
      rw [if_pos ho] at h1 h2
      have key : ∀ (r : List Tr), (∀ y ∈ r, y ∈ x.l) → ∀ a : Int, 1 ≤ a → a ≤ m → (Tr.cnt.cntl r m a).2 = true → (Tr.cnt.cntl r m a).1 < m → Tr.cnt.cntl r m' a = Tr.cnt.cntl r m a := by
        intro r
        induction r with
        | nil => exact fun _ a _ _ _ _ => rfl
        | cons y r ihr =>
          intro hr a h3 h4 h5 h6
          rw [Tr.cnt.cntl] at h5 h6 ⊢
          rw [Tr.cnt.cntl]
          by_cases hma : m ≤ a
          · rw [if_pos hma] at h6; simp at h6; omega
          rw [if_neg hma] at h5 h6 ⊢
          rw [if_neg (by omega)]
          by_cases hy2 : (y.cnt (m - a)).2 = true
          · rw [if_pos hy2] at h5 h6 ⊢
            have hbd := cnt_bound y (m - a) (by omega)
            have hlt : (y.cnt (m - a)).1 < m - a := by
              by_cases hc : (y.cnt (m - a)).1 < m - a
              · exact hc
              · rw [cntl_stop r (show m ≤ a + (y.cnt (m - a)).1 by omega)] at h6
                simp at h6; omega
            have hy := ih y (hr y (by simp)) (m - a) (by omega) hy2 hlt (m' - a) (by omega)
            rw [hy, if_pos hy2]
            exact ihr (fun z hz => hr z (List.mem_cons_of_mem _ hz)) _ (by omega) (by omega) h5 h6
          · rw [if_neg hy2] at h5; simp at h5
      exact key x.l (fun _ h => h) 1 (Int.le_refl _) hm h2 h1
    · rfl

/-- A term's parts may be, as it may. -/
theorem chk_one {x : Tr} (h : chkT x = 0) : oneB x = true := by
  unfold chkT at h
  rw [cnt_eq] at h
  cases ho : oneB x
  · rw [ho] at h; simp at h
  · rfl
theorem chk_kids {x : Tr} (h : chkT x = 0) : ∀ y ∈ x.l, chkT y = 0 := by
  have ho := chk_one h
  unfold chkT at h
  rw [cnt_eq, if_pos ho] at h
  have h2 : (Tr.cnt.cntl x.l 257 1).2 = true := by
    cases h3 : (Tr.cnt.cntl x.l 257 1).2
    · rw [h3] at h; simp at h
    · rfl
  rw [if_pos h2] at h
  have h1 : (Tr.cnt.cntl x.l 257 1).1 < 257 := by
    by_cases hc : 256 < (Tr.cnt.cntl x.l 257 1).1
    · rw [if_pos hc] at h; simp at h
    · omega
  have key : ∀ (r : List Tr) (a : Int), 1 ≤ a → a ≤ 257 → (Tr.cnt.cntl r 257 a).2 = true → (Tr.cnt.cntl r 257 a).1 < 257 → ∀ y ∈ r, chkT y = 0 := by
    intro r
    induction r with
    | nil => exact fun a _ _ _ _ y hy => absurd hy (by simp)
    | cons z r ihr =>
      intro a h3 h4 h5 h6
      rw [Tr.cnt.cntl] at h5 h6
      by_cases hma : 257 ≤ a
      · rw [if_pos hma] at h6; simp at h6; omega
      rw [if_neg hma] at h5 h6
      by_cases hy2 : (z.cnt (257 - a)).2 = true
      · rw [if_pos hy2] at h5 h6
        have hbd := cnt_bound z (257 - a) (by omega)
        have hlt : (z.cnt (257 - a)).1 < 257 - a := by
          by_cases hc : (z.cnt (257 - a)).1 < 257 - a
          · exact hc
          · rw [cntl_stop r (show 257 ≤ a + (z.cnt (257 - a)).1 by omega)] at h6
            simp at h6; omega
        intro y hy
        rcases List.mem_cons.1 hy with rfl | hy
        · have := cnt_more y (257 - a) (by omega) hy2 hlt 257 (by omega)
          unfold chkT
          rw [this, if_pos hy2, if_neg (by omega)]
        · exact ihr _ (by omega) (by omega) h5 h6 y hy
      · rw [if_neg hy2] at h5; simp at h5
  exact key x.l 1 (by omega) (by omega) h2 h1

/-- How many nodes a tree has. -/
def Tr.nn : Tr → Nat
  | .mk _ _ _ _ l => nnl l + 1
where nnl : List Tr → Nat
  | [] => 0
  | x :: r => x.nn + nnl r
theorem nn_eq (x : Tr) : x.nn = Tr.nn.nnl x.l + 1 := by cases x; rfl
theorem nnl_drop {l : List Tr} {k : Nat} (hk : k < l.length) : Tr.nn.nnl (l.drop k) = l[k].nn + Tr.nn.nnl (l.drop (k + 1)) := by rw [List.drop_eq_getElem_cons hk, Tr.nn.nnl]
theorem sz_nn (x : Tr) : ∀ m : Int, 1 ≤ m → x.sz m < m → x.sz m = x.nn := by
  induction x using Tr.ind with
  | h x ih =>
    intro m hm h
    rw [nn_eq]
    cases x with
    | mk k n s t l =>
      have key : ∀ (r : List Tr), (∀ y ∈ r, y ∈ l) → ∀ a : Int, 1 ≤ a → a ≤ m → Tr.sz.szl r m a < m → Tr.sz.szl r m a = a + Tr.nn.nnl r := by
        intro r
        induction r with
        | nil => exact fun _ a _ _ _ => by simp [Tr.sz.szl, Tr.nn.nnl]
        | cons y r ihr =>
          intro hr a h1 h2 h3
          rw [Tr.sz.szl] at h3 ⊢
          by_cases hma : a < m
          · rw [if_pos hma] at h3 ⊢
            have hbd := sz_bound y (m - a) (by omega)
            have hlt : y.sz (m - a) < m - a := by
              by_cases hc : y.sz (m - a) < m - a
              · exact hc
              · rw [szl_stop r (show m ≤ a + y.sz (m - a) by omega)] at h3; omega
            rw [ihr (fun z hz => hr z (List.mem_cons_of_mem _ hz)) _ (by omega) (by omega) h3, ih y (hr y (by simp)) (m - a) (by omega) hlt, Tr.nn.nnl]
            omega
          · rw [if_neg hma] at h3; omega
      have := key l (fun _ h => h) 1 (by omega) hm h
      show Tr.sz.szl l m 1 = _
      rw [this]
      show 1 + (Tr.nn.nnl l : Int) = _
      simp only [Tr.l]; omega

/-- What a pattern does with a term under names; none: it does not go. -/
def Tr.go : Tr → Tr → List Bd → Option (List Bd)
  | .mk k n s _ l, x, b =>
    if k = 5 then (if undB s then some b else match bfind b s with
      | some y => if y.same x then some b else none
      | none => some (b ++ [⟨s, x⟩]))
    else if k = 6 then (if x.k = 0 ∧ x.n = n then some b else none)
    else if k = 7 then (if x.k = 1 ∧ (x.s.toList == s.toList) = true then some b else none)
    else if k = 8 then (if x.k = 6 then some b else none)
    else if k = 9 then (if x.k = 7 then gol l x.l b else none)
    else if x.k = 5 ∧ (x.l.length : Int) = l.length then gol l x.l b else none
where gol : List Tr → List Tr → List Bd → Option (List Bd)
  | [], _, b => some b
  | _ :: _, [], b => some b
  | p :: ps, x :: xs, b => match p.go x b with
    | some b' => gol ps xs b'
    | none => none
theorem go_eq (p x : Tr) (b : List Bd) : p.go x b = if p.k = 5 then (if undB p.s then some b else match bfind b p.s with
      | some y => if y.same x then some b else none
      | none => some (b ++ [⟨p.s, x⟩]))
    else if p.k = 6 then (if x.k = 0 ∧ x.n = p.n then some b else none)
    else if p.k = 7 then (if x.k = 1 ∧ (x.s.toList == p.s.toList) = true then some b else none)
    else if p.k = 8 then (if x.k = 6 then some b else none)
    else if p.k = 9 then (if x.k = 7 then Tr.go.gol p.l x.l b else none)
    else if x.k = 5 ∧ (x.l.length : Int) = p.l.length then Tr.go.gol p.l x.l b else none := by cases p; rfl
theorem gol_take {l m : List Tr} {k : Nat} {b : List Bd} (h1 : k < l.length) (h2 : k < m.length) : Tr.go.gol (l.drop k) (m.drop k) b = match l[k].go m[k] b with
    | some b' => Tr.go.gol (l.drop (k + 1)) (m.drop (k + 1)) b'
    | none => none := by
  rw [List.drop_eq_getElem_cons h1, List.drop_eq_getElem_cons h2, Tr.go.gol]
theorem gol_end {l m : List Tr} {k : Nat} {b : List Bd} (h1 : l.length ≤ k) : Tr.go.gol (l.drop k) m b = some b := by
  rw [List.drop_eq_nil_of_le h1, Tr.go.gol]

/-- A pattern by its kinds. -/
theorem pat_cases {x : Tr} (h : x.pat = true) :
    (x.k = 5 ∧ x.l.length = 0) ∨ (x.k = 6 ∧ emp x.s = true ∧ x.l.length = 0) ∨ (x.k = 7 ∧ x.n = 0 ∧ x.l.length = 0) ∨ (x.k = 8 ∧ x.n = 0 ∧ emp x.s = true ∧ x.l.length = 0) ∨
    ((x.k = 10 ∨ x.k = 9 ∧ x.l.length = 2) ∧ x.n = 0 ∧ emp x.s = true ∧ Tr.pat.patl x.l = true) := by
  rw [pat_eq] at h
  simp only [Bool.or_eq_true, Bool.and_eq_true, beq_iff_eq] at h
  rcases h with h | h
  · unfold leafB at h
    split at h
    · rename_i hk; simp [bareB] at h; exact .inl ⟨hk, by simp [h.1.2]⟩
    · split at h
      · rename_i hk; simp [bareB] at h; exact .inr (.inl ⟨hk, h.1.1.1, by simp [h.1.2]⟩)
      · split at h
        · rename_i hk; simp [bareB] at h; exact .inr (.inr (.inl ⟨hk, h.1.1.1, by simp [h.1.2]⟩))
        · split at h
          · rename_i hk; simp [bareB] at h; exact .inr (.inr (.inr (.inl ⟨hk, h.1.1.1, h.1.1.2, by simp [h.2]⟩)))
          · simp at h
  · obtain ⟨⟨h1, h2⟩, h3⟩ := h
    simp [bareB] at h2
    refine .inr (.inr (.inr (.inr ⟨?_, h2.1.1, h2.1.2, h3⟩)))
    rcases h1 with h1 | ⟨h1, h4⟩
    · exact .inl h1
    · exact .inr ⟨h1, by omega⟩
theorem patl_mem : ∀ {l : List Tr}, Tr.pat.patl l = true → ∀ y ∈ l, y.pat = true
  | [], _, y, hy => absurd hy (by simp)
  | x :: r, h, y, hy => by
    rw [Tr.pat.patl, Bool.and_eq_true] at h
    rcases List.mem_cons.1 hy with rfl | hy
    · exact h.1
    · exact patl_mem h.2 y hy
/-- A term that may be, by its kinds. -/
theorem one_cases {x : Tr} (h : oneB x = true) : (x.k = 0 → emp x.s = true) ∧ (x.k = 1 → x.n = 0) ∧ (x.k = 6 → x.n = 0 ∧ emp x.s = true) ∧ (x.k = 7 → x.l.length = 2) := by
  unfold oneB at h
  refine ⟨fun hk => ?_, fun hk => ?_, fun hk => ?_, fun hk => ?_⟩ <;> rw [hk] at h <;> simp [bareB] at h
  · exact h.1.1.1
  · exact h.1.1.1
  · exact ⟨h.1.1.1, h.1.1.2⟩
  · omega
end Go.Proofs.YtjnmdbfijdnaiaaGreatDoor
