/-
  What is taken is the oldest that any clause takes: the plain law.
  Parts of slices of trees and of items; a row of nodes that the call makes. Conditions: the trees lie as 'Kids' says, the items as 'Items' says.
-/
import Derived.Test.YtlhobpknflobgaaGreatDoorSl1
import Derived.Test.YtlhobpknflobgaaGreatDoorM11
import Derived.Test.YtlhobpknflobgaaGreatDoorGv1
namespace Go.Proofs.YtlhobpknflobgaaGreatDoor
open Go.RowKit

theorem takeC_none {gH : Tr → List Bd → Bool} {t : Tr} {ns : List Bd} : ∀ {cs : List Tr} {j : Nat}, takeC gH t ns cs j = none ↔ ∀ c ∈ cs, hitC gH c t ns = none
  | [], j => by simp [takeC]
  | c :: r, j => by
    rw [takeC]
    cases h : hitC gH c t ns with
    | none => simp only [takeC_none (cs := r), List.mem_cons, forall_eq_or_imp, h, true_and]
    | some m => simp [h]
theorem takeC_some {gH : Tr → List Bd → Bool} {t : Tr} {ns : List Bd} {m : List Bd} {j : Nat} : ∀ {cs : List Tr} {j0 : Nat}, takeC gH t ns cs j0 = some (j, m) → ∃ (i : Nat) (h : i < cs.length), j = j0 + i ∧ hitC gH cs[i] t ns = some m ∧ ∀ (i' : Nat) (h' : i' < i), hitC gH (cs[i']'(by omega)) t ns = none
  | [], j0, h => by simp [takeC] at h
  | c :: r, j0, h => by
    rw [takeC] at h
    cases hc : hitC gH c t ns with
    | some m' =>
      rw [hc] at h
      simp only [Option.some.injEq, Prod.mk.injEq] at h
      obtain ⟨rfl, rfl⟩ := h
      exact ⟨0, by simp, rfl, hc, fun i' h' => by omega⟩
    | none =>
      rw [hc] at h
      obtain ⟨i, hi, h1, h2, h3⟩ := takeC_some (cs := r) h
      refine ⟨i + 1, by simp; omega, by omega, by simpa using h2, fun i' h' => ?_⟩
      match i', h' with
      | 0, _ => exact hc
      | i'' + 1, h'' => simpa using h3 i'' (by omega)
theorem takeI_none {gH : Tr → List Bd → Bool} {cs : List Tr} {ns : List Bd} : ∀ {l : List It} {i : Nat}, takeI gH cs ns l i = none ↔ ∀ x ∈ l, takeC gH x.t ns cs 0 = none
  | [], i => by simp [takeI]
  | x :: r, i => by
    rw [takeI]
    cases h : takeC gH x.t ns cs 0 with
    | none => simp only [takeI_none (l := r), List.mem_cons, forall_eq_or_imp, h, true_and]
    | some m => simp [h]
theorem takeI_some {gH : Tr → List Bd → Bool} {cs : List Tr} {ns : List Bd} {m : List Bd} {i j : Nat} : ∀ {l : List It} {i0 : Nat}, takeI gH cs ns l i0 = some (i, j, m) → ∃ (a : Nat) (h : a < l.length), i = i0 + a ∧ takeC gH l[a].t ns cs 0 = some (j, m) ∧ ∀ (a' : Nat) (h' : a' < a), takeC gH (l[a']'(by omega)).t ns cs 0 = none
  | [], i0, h => by simp [takeI] at h
  | x :: r, i0, h => by
    rw [takeI] at h
    cases hc : takeC gH x.t ns cs 0 with
    | some q =>
      rw [hc] at h
      obtain ⟨j', m'⟩ := q
      simp only [Option.some.injEq, Prod.mk.injEq] at h
      obtain ⟨rfl, rfl, rfl⟩ := h
      exact ⟨0, by simp, rfl, hc, fun i' h' => by omega⟩
    | none =>
      rw [hc] at h
      obtain ⟨a, ha, h1, h2, h3⟩ := takeI_some (l := r) h
      refine ⟨a + 1, by simp; omega, by omega, by simpa using h2, fun i' h' => ?_⟩
      match i', h' with
      | 0, _ => exact hc
      | i'' + 1, h'' => simpa using h3 i'' (by omega)
theorem sel_good {l : List It} {cs : List Tr} {ns m : List Bd} {a b : Int} {ok : Bool} (h : selS gdB hldS l cs ns = (a, b, m, ok, 0)) : badS gdB l cs ns = false ∧ (match takeI hldS cs ns l 0 with | some (i, j, m) => ((i : Int), (j : Int), m, true, (0 : Int)) | none => (0, 0, ns, false, 0)) = (a, b, m, ok, 0) := by
  unfold selS at h
  cases hb : badS gdB l cs ns
  · rw [hb, if_neg (by simp)] at h
    exact ⟨rfl, h⟩
  · rw [hb, if_pos rfl] at h
    simp at h
theorem sel_of {l : List It} {cs : List Tr} {ns : List Bd} (h : badS gdB l cs ns = false) : selS gdB hldS l cs ns = match takeI hldS cs ns l 0 with | some (i, j, m) => ((i : Int), (j : Int), m, true, (0 : Int)) | none => (0, 0, ns, false, 0) := by
  unfold selS
  rw [h, if_neg (by simp)]
  cases takeI hldS cs ns l 0 <;> rfl
theorem bad_parts {l : List It} {cs : List Tr} {ns : List Bd} : badS gdB l cs ns = false ↔ (∀ c ∈ cs, clB gdB c = true) ∧ (∀ x ∈ l, chkT x.t = 0) ∧ mayB ns = true := by
  unfold badS
  simp only [Bool.or_eq_false_iff, List.any_eq_false, Bool.not_eq_true, Bool.not_eq_false', beq_iff_eq]
/-- What a clause and an item by themselves come to. -/
theorem oldest_one {l : List It} {cs : List Tr} {ns m : List Bd} {a k : Int} {ok : Bool} (h : selS gdB hldS l cs ns = (a, k, m, ok, 0)) {i j : Nat} (hi : i < l.length) (hj : j < cs.length) :
    ∃ (a1 b1 : Int) (m1 : List Bd) (tk : Bool), selS gdB hldS [l[i]] [cs[j]] ns = (a1, b1, m1, tk, 0) ∧ (tk = true → ok = true ∧ ¬ ((i : Int) < a) ∧ ((i : Int) = a → ¬ ((j : Int) < k))) ∧ (ok = true → (i : Int) = a → (j : Int) = k → tk = true) := by
  obtain ⟨hb, hs⟩ := sel_good h
  have hp := bad_parts.1 hb
  have hb1 : badS gdB [l[i]] [cs[j]] ns = false := bad_parts.2 ⟨fun c hc => by simp at hc; subst hc; exact hp.1 _ (List.getElem_mem hj), fun x hx => by simp at hx; subst hx; exact hp.2.1 _ (List.getElem_mem hi), hp.2.2⟩
  have h1 := sel_of hb1
  have e : takeI hldS [cs[j]] ns [l[i]] 0 = match hitC hldS cs[j] l[i].t ns with | some m => some (0, 0, m) | none => none := by
    rw [takeI, takeC, takeC, takeI]
    cases hitC hldS cs[j] l[i].t ns <;> rfl
  rw [e] at h1
  cases hh : hitC hldS cs[j] l[i].t ns with
  | none =>
    rw [hh] at h1
    refine ⟨_, _, _, false, h1, fun h => (by cases h), fun hok ha hk => ?_⟩
    cases ht : takeI hldS cs ns l 0 with
    | none => rw [ht] at hs; simp only [Prod.mk.injEq] at hs; obtain ⟨_, _, _, h4, _⟩ := hs; rw [hok] at h4; cases h4
    | some q =>
      obtain ⟨i', j', m'⟩ := q
      rw [ht] at hs
      simp only [Prod.mk.injEq] at hs
      obtain ⟨s1, s2, s3, _, _⟩ := hs
      obtain ⟨x, hx, hx1, hx2, _⟩ := takeI_some ht
      obtain ⟨y, hy, hy1, hy2, _⟩ := takeC_some hx2
      have e1 : x = i := by omega
      have e2 : y = j := by omega
      subst e1 e2
      rw [hh] at hy2
      cases hy2
  | some m1 =>
    rw [hh] at h1
    refine ⟨_, _, _, true, h1, fun _ => ?_, fun _ _ _ => rfl⟩
    cases ht : takeI hldS cs ns l 0 with
    | none =>
      have h2 := takeI_none.1 ht _ (List.getElem_mem hi)
      have h3 := takeC_none.1 h2 _ (List.getElem_mem hj)
      rw [hh] at h3
      cases h3
    | some q =>
      obtain ⟨i', j', m'⟩ := q
      rw [ht] at hs
      simp only [Prod.mk.injEq] at hs
      obtain ⟨s1, s2, s3, s4, _⟩ := hs
      obtain ⟨x, hx, hx1, hx2, hx3⟩ := takeI_some ht
      obtain ⟨y, hy, hy1, hy2, hy3⟩ := takeC_some hx2
      refine ⟨s4.symm, fun hlt => ?_, fun hea hlt => ?_⟩
      · have h2 := takeC_none.1 (hx3 i (by omega)) _ (List.getElem_mem hj)
        rw [hh] at h2
        cases h2
      · have e1 : x = i := by omega
        subst e1
        have h2 := hy3 j (by omega)
        rw [hh] at h2
        cases h2
theorem takeC_insert {gH : Tr → List Bd → Bool} {t : Tr} {ns : List Bd} {more : Tr} (hm : hitC gH more t ns = none) : ∀ (cs : List Tr) (p j : Nat), p ≤ cs.length →
    takeC gH t ns (cs.take p ++ more :: cs.drop p) j = (takeC gH t ns cs j).map fun q => (if q.1 < j + p then q.1 else q.1 + 1, q.2)
  | cs, 0, j, _ => by
    rw [List.take_zero, List.drop_zero, List.nil_append, takeC, hm]
    show takeC gH t ns cs (j + 1) = _
    have key : ∀ (r : List Tr) (j : Nat), takeC gH t ns r (j + 1) = (takeC gH t ns r j).map fun q => (q.1 + 1, q.2) := by
      intro r
      induction r with
      | nil => exact fun _ => rfl
      | cons c r ih =>
        intro j
        rw [takeC, takeC]
        cases hitC gH c t ns with
        | none => exact ih _
        | some m => rfl
    rw [key]
    cases hq : takeC gH t ns cs j with
    | none => rfl
    | some q =>
      obtain ⟨i, hi, h1, _⟩ := takeC_some (m := q.2) (j := q.1) hq
      show some (q.1 + 1, q.2) = some ((if q.1 < j + 0 then q.1 else q.1 + 1), q.2)
      rw [if_neg (by omega)]
  | [], p + 1, j, h => by simp at h
  | c :: r, p + 1, j, h => by
    rw [List.take_succ_cons, List.drop_succ_cons, List.cons_append, takeC, takeC]
    cases hitC gH c t ns with
    | some m => show some (j, m) = some ((if j < j + (p + 1) then j else j + 1), m); rw [if_pos (by omega)]
    | none =>
      show takeC gH t ns (r.take p ++ more :: r.drop p) (j + 1) = _
      rw [takeC_insert hm r p (j + 1) (by simp at h; omega)]
      show Option.map _ _ = Option.map _ _
      congr 1
      funext q
      rw [show j + 1 + p = j + (p + 1) by omega]
theorem takeI_insert {gH : Tr → List Bd → Bool} {ns : List Bd} {more : Tr} {cs : List Tr} {p : Nat} (hp : p ≤ cs.length) : ∀ (l : List It) (i : Nat), (∀ x ∈ l, hitC gH more x.t ns = none) →
    takeI gH (cs.take p ++ more :: cs.drop p) ns l i = (takeI gH cs ns l i).map fun q => (q.1, if q.2.1 < p then q.2.1 else q.2.1 + 1, q.2.2)
  | [], _, _ => rfl
  | x :: r, i, h => by
    rw [takeI, takeI, takeC_insert (h x (by simp)) cs p 0 hp, Nat.zero_add]
    cases takeC gH x.t ns cs 0 with
    | none => exact takeI_insert hp r (i + 1) fun y hy => h y (List.mem_cons_of_mem _ hy)
    | some q => rfl
/-- A clause that takes none may stand anywhere. -/
theorem oldest_more {l : List It} {cs : List Tr} {ns m m2 : List Bd} {a k a2 k2 : Int} {ok : Bool} {more : Tr} (h : selS gdB hldS l cs ns = (a, k, m, ok, 0)) (h2 : selS gdB hldS l [more] ns = (a2, k2, m2, false, 0)) {p : Nat} (hp : p ≤ cs.length) :
    ∃ (k3 : Int) (m3 : List Bd), selS gdB hldS l (cs.take p ++ more :: cs.drop p) ns = (a, k3, m3, ok, 0) ∧ 0 ≤ k3 ∧ k3 ≤ (cs.length : Int) ∧ (((p : Int) < k3 ∧ k3 - 1 = k) ∨ (¬ (p : Int) < k3 ∧ k3 = k)) := by
  obtain ⟨hb, hs⟩ := sel_good h
  obtain ⟨hb2, hs2⟩ := sel_good h2
  have hp1 := bad_parts.1 hb
  have hp2 := bad_parts.1 hb2
  have hn : ∀ x ∈ l, hitC hldS more x.t ns = none := by
    cases ht : takeI hldS [more] ns l 0 with
    | none => exact fun x hx => takeC_none.1 (takeI_none.1 ht x hx) _ (by simp)
    | some q => rw [ht] at hs2; simp at hs2
  have hb3 : badS gdB l (cs.take p ++ more :: cs.drop p) ns = false := bad_parts.2 ⟨fun c hc => by
    rcases List.mem_append.1 hc with hc | hc
    · exact hp1.1 _ (List.mem_of_mem_take hc)
    · rcases List.mem_cons.1 hc with rfl | hc
      · exact hp2.1 _ (by simp)
      · exact hp1.1 _ (List.mem_of_mem_drop hc), hp1.2⟩
  rw [sel_of hb3, takeI_insert hp l 0 hn]
  cases ht : takeI hldS cs ns l 0 with
  | none =>
    rw [ht] at hs
    simp only [Prod.mk.injEq] at hs
    obtain ⟨rfl, rfl, _, rfl, _⟩ := hs
    exact ⟨0, ns, rfl, by omega, by omega, .inr ⟨by omega, rfl⟩⟩
  | some q =>
    obtain ⟨i, j, m'⟩ := q
    rw [ht] at hs
    simp only [Prod.mk.injEq] at hs
    obtain ⟨rfl, rfl, _, rfl, _⟩ := hs
    obtain ⟨x, hx, _, hx2, _⟩ := takeI_some ht
    obtain ⟨y, hy, hy1, _, _⟩ := takeC_some hx2
    by_cases hj : j < p
    · refine ⟨(j : Int), m', ?_, by omega, by omega, .inr ⟨by omega, rfl⟩⟩
      show (((i : Nat) : Int), (((if j < p then j else j + 1 : Nat)) : Int), m', true, (0 : Int)) = _
      rw [if_pos hj]
    · refine ⟨((j + 1 : Nat) : Int), m', ?_, by omega, by omega, .inl ⟨by omega, by omega⟩⟩
      show (((i : Nat) : Int), (((if j < p then j else j + 1 : Nat)) : Int), m', true, (0 : Int)) = _
      rw [if_neg hj]
end Go.Proofs.YtlhobpknflobgaaGreatDoor
namespace Go.Proofs.YtlhobpknflobgaaGreatDoor
open Go.RowKit

theorem Kids.take {F : Nat → Prop} {w : World} {p : Option Addr} {n c : Nat} {l : List Tr} (h : Kids F w (.slice p n c) l) {m : Nat} (hm : m ≤ l.length) : Kids F w (.slice p m c) (l.take m) := by
  cases h with
  | mk p c l sv hc hb hwf hcells hk =>
    have hl : (l.take m).length = m := by rw [List.length_take]; omega
    have h1 : Kids F w (.slice p (l.take m).length c) (l.take m) := by
      refine .mk p c (l.take m) sv (by omega) (by omega) (fun i hi => ?_) (fun i hi => ?_) (fun i hi => ?_)
      · rw [List.getElem_take]; exact hwf i (by omega)
      · obtain ⟨g, o, h1, h2, h3⟩ := hcells i (by omega)
        exact ⟨g, o, h1, h2, by rw [List.getElem_take]; exact h3⟩
      · rw [List.getElem_take]; exact hk i (by omega)
    rwa [hl] at h1
theorem Kids.drop {F : Nat → Prop} {w : World} {ad : Addr} {n c : Nat} {l : List Tr} (h : Kids F w (.slice (some ad) n c) l) {m : Nat} (hm : m ≤ l.length) : Kids F w (.slice (some (ad.add (m * 5))) (l.length - m) (c - m)) (l.drop m) := by
  cases h with
  | mk _ c l sv hc hb hwf hcells hk =>
    have hl : (l.drop m).length = l.length - m := List.length_drop
    have h1 : Kids F w (.slice (some (ad.add (m * 5))) (l.drop m).length (c - m)) (l.drop m) := by
      refine .mk (some (ad.add (m * 5))) (c - m) (l.drop m) (fun i => sv (m + i)) (by omega) (by omega) (fun i hi => ?_) (fun i hi => ?_) (fun i hi => ?_)
      · rw [List.getElem_drop]; exact hwf (m + i) (by omega)
      · obtain ⟨g, o, h1, h2, h3⟩ := hcells (m + i) (by omega)
        cases h1
        refine ⟨g, o + m * 5, by rw [addr_add], h2, ?_⟩
        rw [List.getElem_drop]
        rw [Nat.add_mul, ← Nat.add_assoc] at h3
        exact h3
      · rw [List.getElem_drop]; exact hk (m + i) (by omega)
    rwa [hl] at h1
theorem Kids.empty {F : Nat → Prop} (w : World) (p : Option Addr) (c : Nat) : Kids F w (.slice p 0 c) [] :=
  .mk p c [] (fun _ => undef) (Nat.zero_le _) (Nat.zero_le _) (fun i hi => by simp at hi) (fun i hi => by simp at hi) (fun i hi => by simp at hi)
theorem Kids.one {F : Nat → Prop} {w : World} {ad : Addr} {n c : Nat} {l : List Tr} (h : Kids F w (.slice (some ad) n c) l) {j : Nat} (hj : j < l.length) : Kids F w (.slice (some (ad.add (j * 5))) 1 (c - j)) [l[j]] := by
  have h1 := (h.drop (m := j) (by omega)).take (m := 1) (by simp; omega)
  rwa [show (l.drop j).take 1 = [l[j]] by rw [List.drop_eq_getElem_cons hj]; rfl] at h1
theorem Items.one {F : Nat → Prop} {w : World} {ad : Addr} {n c : Nat} {l : List It} (h : Items F w (.slice (some ad) n c) l) {j : Nat} (hj : j < l.length) : Items F w (.slice (some (ad.add (j * 6))) 1 (c - j)) [l[j]] := by
  obtain ⟨p', c', he, h1, h2, h3, h4⟩ := h
  cases he
  refine ⟨_, _, rfl, by simp; omega, by simp [BL], fun i hi => ?_, fun e => by cases e⟩
  obtain rfl : i = 0 := by simp at hi; omega
  obtain ⟨g, o, sv, k1, k2, k3, k4, k5⟩ := h3 j hj
  cases k1
  exact ⟨g, o + j * 6, sv, by rw [addr_add], k2, by simpa using k3, by simpa using k4, k5⟩

/-- A row of nodes that the call makes; what they hold lies ahead of it. -/
structure NRow (base : Nat) (w : World) (v : Value) (L : List (Tr × Value)) : Prop where
  own : w.ownsRow base 25 5 v L.length (L.flatMap tcells)
  at_ : ∀ q ∈ L, TrV (fun g => g < base) w q.1 q.2
theorem NRow.nil (base : Nat) (w : World) : NRow base w (.slice none 0 0) [] := ⟨World.ownsRow_nil .., fun q hq => by simp at hq⟩
theorem NRow.slice {base : Nat} {w : World} {v : Value} {L : List (Tr × Value)} (h : NRow base w v L) : ∃ q c, v = .slice q L.length c := row_shape h.own
theorem NRow.under {base : Nat} {w w' : World} {v : Value} {L : List (Tr × Value)} (h : NRow base w v L) (hb : Below w.heap.size w w') : NRow base w' v L := ⟨row_under h.own hb, fun q hq => (h.at_ q hq).below hb⟩
theorem NRow.kids {base : Nat} {w : World} {v : Value} {L : List (Tr × Value)} (h : NRow base w v L) (hb : L.length ≤ BL) : Kids (fun _ => True) w v (L.map (·.1)) :=
  kids_row h.own (fun _ _ => trivial) (fun q hq => (h.at_ q hq).mono fun _ _ _ => trivial) hb
/-- A row of nodes to be appended: its cells, and that what they hold lies ahead of a place. -/
structure NSrc (base : Nat) (w : World) (p : Option Addr) (n : Nat) (L : List (Tr × Value)) : Prop where
  len : n = L.length
  some_ : L.length ≠ 0 → ∃ ad, p = some ad
  cells : ∀ ad, p = some ad → ∀ j u, (L.flatMap tcells)[j]? = some u → w.cell? (ad.add j) = some u
  at_ : ∀ q ∈ L, TrV (fun g => g < base) w q.1 q.2
theorem Kids.nsrc {base : Nat} {w : World} {p : Option Addr} {n c : Nat} {l : List Tr} (h : Kids (fun g => g < base) w (.slice p n c) l) : ∃ L, L.map (·.1) = l ∧ NSrc base w p n L := by
  obtain ⟨L, h1, h2, h3⟩ := h.cells
  have hl : L.length = l.length := by rw [← h1, List.length_map]
  have hn : n = l.length := by obtain ⟨_, _, he, _⟩ := h.open_; cases he; rfl
  refine ⟨L, h1, by omega, fun h0 => ?_, h3, h2⟩
  obtain ⟨g, o, sv, hp, _⟩ := h.at (i := 0) (by omega)
  exact ⟨_, hp⟩
theorem NSrc.empty (base : Nat) (w : World) (p : Option Addr) : NSrc base w p 0 [] := ⟨rfl, fun h => absurd rfl h, fun _ _ j u hu => by simp at hu, fun q hq => by simp at hq⟩
theorem NSrc.one {base : Nat} {W : World} {b : Nat} {x : Tr} {sv : Value} {T : TypeId} (h : W.heap[b]? = some (.cells #[.int .i8 x.k, .int .i64 x.n, .string x.s, .string x.t, sv] T (0, 0))) (hx : TrV (fun g => g < base) W x sv) : NSrc base W (some ⟨b, 0, .none⟩) 1 [(x, sv)] := by
  refine ⟨rfl, fun _ => ⟨_, rfl⟩, fun ad hp j u hu => ?_, fun q hq => by simp at hq; subst hq; exact hx⟩
  cases hp
  have e : ([(x, sv)] : List (Tr × Value)).flatMap tcells = [.int .i8 x.k, .int .i64 x.n, .string x.s, .string x.t, sv] := rfl
  rw [e] at hu
  have h2 : W.cell? ⟨b, 0 + j, .none⟩ = (#[.int .i8 x.k, .int .i64 x.n, .string x.s, .string x.t, sv] : Array Value)[0 + j]? := arr_cell h
  rw [addr_add, h2, Nat.zero_add]
  simpa using hu
set_option maxRecDepth 10000 in
theorem run_append_nrow {w : World} (ty : TypeId) (base : Nat) (v : Value) (L : List (Tr × Value)) (hrow : NRow base w v L) (p : Option Addr) (n c : Nat) (Ls : List (Tr × Value)) (hsrc : NSrc base w p n Ls) (hlen : L.length + Ls.length ≤ 1048576) (hbase : base ≤ w.heap.size) :
    ∃ v' w', (Builtin.append_ #[23, 23] ty #[v, .slice p n c]).run Tryz.prog w = .ok v' w' ∧ NRow base w' v' (L ++ Ls) ∧ Below base w w' := by
  obtain ⟨i0, hi, hz0, hz1, hz2⟩ := info_parts infoNode
  obtain ⟨hn, hsome, hLc, hLt⟩ := hsrc
  by_cases h0 : Ls.length = 0
  · obtain rfl : Ls = [] := List.eq_nil_of_length_eq_zero h0
    obtain rfl : n = 0 := hn
    have hq : ∃ q cp, v = .slice q L.length cp ∧ L.length ≤ cp := by
      rcases hrow.own.2 with ⟨h1, h2⟩ | ⟨g, cap, cur, hv, _, _, hc, _⟩
      · exact ⟨none, 0, by rw [h2]; exact h1, by omega⟩
      · exact ⟨_, cap, hv, hc⟩
    obtain ⟨q, cp, hv, hle⟩ := hq
    refine ⟨v, w, ?_, by rw [List.append_nil]; exact hrow, Below.refl _ _⟩
    rw [hv]
    exact run_append_empty (P := Tryz.prog) (w := w) 23 ty 25 i0 Tryz.underlying23 hi q p L.length cp c hle
  · obtain ⟨ad, rfl⟩ := hsome h0
    obtain ⟨v', w', hr, hown, hg, _⟩ := run_append_own (P := Tryz.prog) w base 23 ty 25 i0 _ 5 72 Tryz.underlying23 hi hz0 hz1 hz2 rfl (by decide) v L.length (L.flatMap tcells) hrow.own ad n c (Ls.flatMap tcells) (by rw [flat5t_len, hn]) (hLc _ rfl)
      (fun u hu => by obtain ⟨q, hq, hu⟩ := List.mem_flatMap.1 hu; exact tcells_plain (hLt q hq) u hu) (by unfold maxLen; omega) (by omega) hbase
    have hB : Below base w w' := (Below.refl _ _).grown hg hbase (row_base hrow.own)
    refine ⟨v', w', hr, ⟨by rw [List.length_append, List.flatMap_append, ← hn]; exact hown, fun q hq => ?_⟩, hB⟩
    have hq' : TrV (fun g => g < base) w q.1 q.2 := by
      rcases List.mem_append.1 hq with hq | hq
      · exact hrow.at_ q hq
      · exact hLt q hq
    exact ⟨hq'.wf, hq'.kids.keep fun g hg' hl => hB.block g hg'⟩
theorem wpList_append_nrow {w : World} {ops : Array Oper} {rest : List Oper} {o : Oper} {a : Act} {Q : Exit → Act → World → Prop} (hgd : o.guard = none) (s x : Operand)
    (ho : o.op = .call { callee := .builtin .append, args := #[s, x], argTypes := #[23, 23] })
    (base : Nat) (v : Value) (L : List (Tr × Value)) (hs : a.eval s = v) (hrow : NRow base w v L) (p : Option Addr) (n c : Nat) (Ls : List (Tr × Value)) (hx : a.eval x = .slice p n c) (hsrc : NSrc base w p n Ls) (hlen : L.length + Ls.length ≤ 1048576) (hbase : base ≤ w.heap.size)
    (h : ∀ v' w', NRow base w' v' (L ++ Ls) → Below base w w' → wpList Tryz.prog ops Q rest (a.put o.dst v') w') : wpList Tryz.prog ops Q (o :: rest) a w := by
  refine wpList_plain hgd fun K hK => ?_
  obtain ⟨v', w', hr, k1, k2⟩ := run_append_nrow (w := w) o.type base v L hrow p n c Ls hsrc hlen hbase
  unfold Oper.wp
  simp [execOp, ho, resolve, invoke, builtin, hs, hx, hr, Result.andThen]
  exact hK _ _ (h v' w' k1 k2)
end Go.Proofs.YtlhobpknflobgaaGreatDoor
