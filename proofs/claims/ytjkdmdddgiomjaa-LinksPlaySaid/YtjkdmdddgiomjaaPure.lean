/-
  The plain law: what ask does keeps the web's invariant. No program in sight. No condition.
-/
import Derived.Test.YtjkdmdddgiomjaaAsk
namespace Go.Proofs.Ytjkdmdddgiomjaa
open Go.RowKit Go.Maps

theorem insK_cons (y x : Int) (r : List Int) : insK y (x :: r) = if y < x then y :: x :: r else if y = x then y :: r else x :: insK y r := by
  unfold insK
  simp only [List.map_cons, ins]
  split
  · simp [Function.comp_def]
  · split
    · simp [Function.comp_def]
    · rfl
theorem insK_nil (y : Int) : insK y [] = [y] := rfl
theorem mem_insK {y z : Int} : ∀ {l : List Int}, z ∈ insK y l ↔ z = y ∨ z ∈ l
  | [] => by simp [insK_nil]
  | x :: r => by
    rw [insK_cons]
    split
    · simp
    · split
      · rename_i h; subst h; simp
      · rw [List.mem_cons, mem_insK (l := r), List.mem_cons]
        constructor
        · rintro (h | h | h)
          · exact .inr (.inl h)
          · exact .inl h
          · exact .inr (.inr h)
        · rintro (h | h | h)
          · exact .inr (.inl h)
          · exact .inl h
          · exact .inr (.inr h)
theorem srt_insK {y : Int} : ∀ {l : List Int}, l.Pairwise (· < ·) → (insK y l).Pairwise (· < ·)
  | [], _ => List.pairwise_singleton _ _
  | x :: r, h => by
    have h1 := (List.pairwise_cons.1 h).1
    have h2 := (List.pairwise_cons.1 h).2
    rw [insK_cons]
    split
    · refine List.pairwise_cons.2 ⟨fun z hz => ?_, h⟩
      rcases List.mem_cons.1 hz with rfl | hz
      · assumption
      · have := h1 z hz; omega
    · split
      · rename_i h3; subst h3; exact h
      · refine List.pairwise_cons.2 ⟨fun z hz => ?_, srt_insK h2⟩
        rcases mem_insK.1 hz with rfl | hz
        · omega
        · exact h1 z hz
theorem insK_same {y : Int} : ∀ {l : List Int}, l.Pairwise (· < ·) → y ∈ l → insK y l = l
  | x :: r, h, hy => by
    have h1 := (List.pairwise_cons.1 h).1
    rw [insK_cons]
    rcases List.mem_cons.1 hy with rfl | hy
    · rw [if_neg (by omega), if_pos rfl]
    · have := h1 y hy
      rw [if_neg (by omega), if_neg (by omega), insK_same (List.pairwise_cons.1 h).2 hy]
theorem len_insK (y : Int) : ∀ l : List Int, (insK y l).length ≤ l.length + 1
  | [] => by simp [insK_nil]
  | x :: r => by
    rw [insK_cons]
    split
    · simp
    · split
      · simp
      · have := len_insK y r; simp; omega
theorem mem_delK {y z : Int} {l : List Int} : z ∈ delK y l ↔ z ≠ y ∧ z ∈ l := by
  simp [delK, and_comm]
theorem len_delK (y : Int) (l : List Int) : (delK y l).length ≤ l.length := List.length_filter_le _ _
theorem srt_delK {y : Int} {l : List Int} (h : l.Pairwise (· < ·)) : (delK y l).Pairwise (· < ·) := h.filter _

theorem adj2_eq (on : Bool) {a b : Int} (hab : a ≠ b) (f : Int → List Int) (z : Int) : adj2 on a b f z = if z = b then upd on a (f b) else if z = a then upd on b (f a) else f z := by
  unfold adj2
  have h1 : adj1 on a b f b = f b := by unfold adj1; rw [if_neg (Ne.symm hab)]
  show (if z = b then upd on a (adj1 on a b f b) else adj1 on a b f z) = _
  rw [h1]
  rfl
theorem mayB_iff (a b : Int) : mayB a b = true ↔ 1 ≤ a ∧ 1 ≤ b ∧ a ≠ b := by
  simp [mayB, and_assoc]

structure Inv3 (f : Int → List Int) (S : Int → Int → Bool) : Prop where
  sym : ∀ a b, b ∈ f a ↔ (1 ≤ a ∧ 1 ≤ b ∧ a ≠ b ∧ S (min a b) (max a b) = true)
  srt : ∀ a, (f a).Pairwise (· < ·)
  len : ∀ a, (f a).length ≤ 64

theorem inv3_off {f : Int → List Int} {S : Int → Int → Bool} (h : Inv3 f S) {a b : Int} (hab : a ≠ b) : Inv3 (adj2 false a b f) (pairS false (min a b) (max a b) S) := by
  refine ⟨fun u v => ?_, fun u => ?_, fun u => ?_⟩
  · have hs := h.sym u v
    rw [adj2_eq false hab]
    simp only [pairS, Bool.false_eq_true, if_false, Bool.and_eq_true, Bool.not_eq_true', Bool.and_eq_false_iff, beq_eq_false_iff_ne]
    by_cases h1 : u = b
    · subst h1
      rw [if_pos rfl]
      simp only [upd, Bool.false_eq_true, if_false, mem_delK, hs]
      constructor
      · rintro ⟨h2, h3, h4, h5, h6⟩; exact ⟨h3, h4, h5, by omega, h6⟩
      · rintro ⟨h3, h4, h5, h2, h6⟩; exact ⟨by omega, h3, h4, h5, h6⟩
    · rw [if_neg h1]
      by_cases h2 : u = a
      · subst h2
        rw [if_pos rfl]
        simp only [upd, Bool.false_eq_true, if_false, mem_delK, hs]
        constructor
        · rintro ⟨h2, h3, h4, h5, h6⟩; exact ⟨h3, h4, h5, by omega, h6⟩
        · rintro ⟨h3, h4, h5, h2, h6⟩; exact ⟨by omega, h3, h4, h5, h6⟩
      · rw [if_neg h2, hs]
        constructor
        · rintro ⟨h3, h4, h5, h6⟩; exact ⟨h3, h4, h5, by omega, h6⟩
        · rintro ⟨h3, h4, h5, _, h6⟩; exact ⟨h3, h4, h5, h6⟩
  · rw [adj2_eq false hab]
    split
    · exact srt_delK (h.srt _)
    · split
      · exact srt_delK (h.srt _)
      · exact h.srt _
  · rw [adj2_eq false hab]
    split
    · exact Nat.le_trans (len_delK _ _) (h.len _)
    · split
      · exact Nat.le_trans (len_delK _ _) (h.len _)
      · exact h.len _

theorem inv3_on {f : Int → List Int} {S : Int → Int → Bool} (h : Inv3 f S) {a b : Int} (ha : 1 ≤ a) (hb : 1 ≤ b) (hab : a ≠ b) (hf : ¬ (S (min a b) (max a b) = false ∧ 64 ≤ max (f a).length (f b).length)) : Inv3 (adj2 true a b f) (pairS true (min a b) (max a b) S) := by
  have hlen : ∀ u v : Int, (u = a ∧ v = b ∨ u = b ∧ v = a) → (insK v (f u)).length ≤ 64 := by
    intro u v huv
    cases hS : S (min a b) (max a b) with
    | true =>
      have hm : v ∈ f u := by
        refine (h.sym u v).2 ?_
        rcases huv with ⟨rfl, rfl⟩ | ⟨rfl, rfl⟩
        · exact ⟨ha, hb, hab, hS⟩
        · exact ⟨hb, ha, Ne.symm hab, by rw [Int.min_comm, Int.max_comm]; exact hS⟩
      rw [insK_same (h.srt u) hm]
      exact h.len u
    | false =>
      have := len_insK v (f u)
      have h2 : ¬ 64 ≤ max (f a).length (f b).length := fun h2 => hf ⟨hS, h2⟩
      rcases huv with ⟨rfl, rfl⟩ | ⟨rfl, rfl⟩ <;> omega
  refine ⟨fun u v => ?_, fun u => ?_, fun u => ?_⟩
  · have hs := h.sym u v
    rw [adj2_eq true hab]
    simp only [pairS, if_true, Bool.or_eq_true, Bool.and_eq_true, beq_iff_eq]
    by_cases h1 : u = b
    · subst h1
      rw [if_pos rfl]
      simp only [upd, if_true, mem_insK, hs]
      constructor
      · rintro (rfl | ⟨h3, h4, h5, h6⟩)
        · exact ⟨hb, ha, Ne.symm hab, .inl (by omega)⟩
        · exact ⟨h3, h4, h5, .inr h6⟩
      · rintro ⟨h3, h4, h5, h6 | h6⟩
        · exact .inl (by omega)
        · exact .inr ⟨h3, h4, h5, h6⟩
    · rw [if_neg h1]
      by_cases h2 : u = a
      · subst h2
        rw [if_pos rfl]
        simp only [upd, if_true, mem_insK, hs]
        constructor
        · rintro (rfl | ⟨h3, h4, h5, h6⟩)
          · exact ⟨ha, hb, hab, .inl (by omega)⟩
          · exact ⟨h3, h4, h5, .inr h6⟩
        · rintro ⟨h3, h4, h5, h6 | h6⟩
          · exact .inl (by omega)
          · exact .inr ⟨h3, h4, h5, h6⟩
      · rw [if_neg h2, hs]
        constructor
        · rintro ⟨h3, h4, h5, h6⟩; exact ⟨h3, h4, h5, .inr h6⟩
        · rintro ⟨h3, h4, h5, h6 | h6⟩
          · omega
          · exact ⟨h3, h4, h5, h6⟩
  · rw [adj2_eq true hab]
    split
    · exact srt_insK (h.srt _)
    · split
      · exact srt_insK (h.srt _)
      · exact h.srt _
  · rw [adj2_eq true hab]
    split
    · exact hlen b a (.inr ⟨rfl, rfl⟩)
    · split
      · exact hlen a b (.inl ⟨rfl, rfl⟩)
      · exact h.len _

theorem inv3_gone {a : Int} : ∀ (l : List Int) (fs : (Int → List Int) × (Int → Int → Bool)), Inv3 fs.1 fs.2 → (∀ b ∈ l, a ≠ b) → Inv3 (goneF a l fs).1 (goneF a l fs).2
  | [], _, h, _ => h
  | b :: l, fs, h, hl => inv3_gone l _ (inv3_off h (hl b (by simp))) fun c hc => hl c (List.mem_cons_of_mem _ hc)

theorem Inv.three {p : PS} (h : Inv p) : Inv3 p.f p.S := ⟨h.sym, h.srt, h.len⟩
theorem Inv.of {p : PS} (h : Inv3 p.f p.S) (h0 : 0 ≤ p.last) (hr : ∀ m ∈ p.M, 1 ≤ m.1 ∧ m.1 ≤ p.last) : Inv p := ⟨h.sym, h.srt, h.len, h0, hr⟩

theorem inv_ask {p : PS} (h : Inv p) (d a b : Int) : Inv (askS d a b p).2 := by
  have h3 := h.three
  unfold askS
  by_cases h0 : d = 0
  · rw [if_pos h0]
    refine Inv.of ?_ h.low h.refs
    show Inv3 (linkS a b p.f p.S).2.1 (linkS a b p.f p.S).2.2
    unfold linkS
    split
    · exact h3
    · rename_i hm
      have hm := (mayB_iff a b).1 (by simpa using hm)
      split
      · exact h3
      · rename_i hf
        exact inv3_on h3 hm.1 hm.2.1 hm.2.2 hf
  rw [if_neg h0]
  by_cases h1 : d = 1
  · rw [if_pos h1]
    refine Inv.of ?_ h.low h.refs
    show Inv3 (cutS a b p.f p.S).2.1 (cutS a b p.f p.S).2.2
    unfold cutS
    split
    · exact h3
    · rename_i hm
      have hm := (mayB_iff a b).1 (by simpa using hm)
      exact inv3_off h3 hm.2.2
  rw [if_neg h1]
  by_cases h2 : d = 2
  · rw [if_pos h2]
    unfold watchS
    split
    · exact h
    · split
      · exact h
      · refine Inv.of h3 (by have := h.low; simp only; omega) fun m hm => ?_
        simp only [List.mem_append, List.mem_singleton] at hm
        rcases hm with hm | rfl
        · have := h.refs m hm; simp only; omega
        · have := h.low; simp only; omega
  rw [if_neg h2]
  by_cases h4 : d = 3
  · rw [if_pos h4]
    exact Inv.of h3 h.low fun m hm => h.refs m (List.mem_filter.1 hm).1
  rw [if_neg h4]
  by_cases h5 : d = 4
  · rw [if_pos h5]
    split
    · exact h
    · refine Inv.of (inv3_gone _ (p.f, p.S) h3 fun b hb => ?_) h.low fun m hm => h.refs m (List.mem_filter.1 hm).1
      exact ((h.sym a b).1 hb).2.2.1
  rw [if_neg h5]
  exact Inv.of h3 (by have := h.low; simp only; omega) fun m hm => by have := h.refs m hm; simp only; omega

theorem last_ask (p : PS) (d a b : Int) : p.last ≤ (askS d a b p).2.last ∧ (askS d a b p).2.last ≤ p.last + 1 := by
  unfold askS watchS
  repeat' split
  all_goals (simp only; omega)

def p0 : PS := ⟨fun _ => [], fun _ _ => false, [], 0⟩
theorem inv0 : Inv p0 := ⟨fun a b => by simp [p0], fun a => List.Pairwise.nil, fun a => by simp [p0], by simp [p0], fun m hm => by simp [p0] at hm⟩

/-- The web behind some acts. -/
def after (l : List (Int × Int × Int)) : PS := l.foldl (fun p x => (askS x.1 x.2.1 x.2.2 p).2) p0
theorem after_snoc (l : List (Int × Int × Int)) (x : Int × Int × Int) : after (l ++ [x]) = (askS x.1 x.2.1 x.2.2 (after l)).2 := by simp [after]
theorem inv_after (l : List (Int × Int × Int)) : Inv (after l) := by
  have : ∀ (l : List (Int × Int × Int)) (p : PS), Inv p → Inv (l.foldl (fun p x => (askS x.1 x.2.1 x.2.2 p).2) p) := by
    intro l
    induction l with
    | nil => exact fun p h => h
    | cons x l ih => exact fun p h => ih _ (inv_ask h _ _ _)
  exact this l p0 inv0
theorem last_after (l : List (Int × Int × Int)) : (after l).last ≤ l.length := by
  have : ∀ (l : List (Int × Int × Int)) (p : PS), (l.foldl (fun p x => (askS x.1 x.2.1 x.2.2 p).2) p).last ≤ p.last + l.length := by
    intro l
    induction l with
    | nil => intro p; simp
    | cons x l ih =>
      intro p
      have h1 := ih (askS x.1 x.2.1 x.2.2 p).2
      have h2 := (last_ask p x.1 x.2.1 x.2.2).2
      simp only [List.foldl_cons, List.length_cons]
      omega
  simpa [p0, after] using this l p0
end Go.Proofs.Ytjkdmdddgiomjaa
